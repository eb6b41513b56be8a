/- Walk: nunciolaw16.BisectPrune. -/
import Derived.Test.YtdhchehagfmjcaaGreatDoorBq
namespace Go.Proofs.YtdhchehagfmjcaaGreatDoor
open Go.RowKit
set_option maxRecDepth 100000

set_option maxHeartbeats 4000000 in
theorem BisectPrune_any (v : Value) (xs : List LtR) (sv : Value) (s : List ActD) (n : Int) (w0 : World) (hx : Came w0 v xs) (hs : RdS w0.heap.size w0 sv s.length 4 (actsCells s)) (hsw : ∀ a ∈ s, a.wf) (hn : i64R n) (hR : RowAt w0 1 0 (wCells rootsL)) :
    Calls Tryz.prog 14 #[v, sv, .int .i64 n] w0 fun e w' => e = .returned (.bool true) ∧ w0.grownBy w' none := by
  have O := OwF.start (fun _ => False) w0
  have CA := Lib.hid (fun w (g : w0.grownBy w none) => alive16_ok w (hR.grown g (by simp)))
  have HXA := Lib.hid (fun k hk => lts_at hx.row hx.wf k hk)
  have HX := Lib.hid hx; have HR := Lib.hid hR
  have CG := Lib.hid (fun (a : ActD) (ha : a.wf) (z : Int) w (g : w0.grownBy w none) => given_ok a v xs z w (hx.row.grown g) hx.wf ha)
  have HSA := Lib.hid (fun k hk => acts_at hs k hk)
  have HSW := Lib.hid hsw
  have CF := few_ok v xs w0 hx.row hx.wf
  have COP := Lib.hid (fun w => options_ok w)
  have HNN := Lib.hid hn
  obtain ⟨ao, cp, rfl, hle, hcm, _, _⟩ := hx.row
  unfold maxLen at hcm
  obtain ⟨N, hN⟩ : ∃ n, xs.length = n := ⟨_, rfl⟩
  rw [hN] at hle CG
  rw [hN]
  have HN := Lib.hid hN
  obtain ⟨bo, dp, rfl, hle2, hcm2, _, _⟩ := hs
  unfold maxLen at hcm2
  obtain ⟨M, hM⟩ : ∃ n, s.length = n := ⟨_, rfl⟩
  rw [hM] at hle2
  rw [hM]
  have HM := Lib.hid hM
  obtain ⟨q, hq⟩ : ∃ q, (decide (xs.length ≤ 14) && xs.all fewLt) = q := ⟨_, rfl⟩
  rw [hq] at CF
  have HFIT : Hid (q = true → ∀ x ∈ xs, ∃ l, x.of w0.heap.size w0 l ∧ l.fit) := Lib.hid (fun h => by
    rw [h, Bool.and_eq_true] at hq
    exact HX.out.fit hq.2)
  replace CF := Lib.hid CF
  rw [hN] at CF
  clear hx hsw hR hN hM hq hn
  go_enter Tryz.func14, Tryz.ntmps14
  go_wp2_with fail
  refine CF.out.mono ?_
  rintro e w ⟨rfl, g⟩
  replace O := O.call g
  clear g
  cases q with
  | false =>
    go_wp2_with fail
    refine (CA.out _ (O.tch.grown (fun _ h => h.elim))).mono ?_
    rintro e w ⟨rfl, g⟩
    replace O := O.call g
    clear g
    go_wp2_with fail
    go_ret
    exact ⟨rfl, O.tch.grown (fun _ h => h.elim)⟩
  | true =>
  replace HFIT := Lib.hid (HFIT.out (by trivial))
  rcases Nat.eq_zero_or_pos N with hN0 | hN0
  · subst hN0
    go_wp2_with fail
    refine (CA.out _ (O.tch.grown (fun _ h => h.elim))).mono ?_
    rintro e w ⟨rfl, g⟩
    replace O := O.call g
    clear g
    go_wp2_with fail
    go_ret
    exact ⟨rfl, O.tch.grown (fun _ h => h.elim)⟩
  rcases Nat.eq_zero_or_pos M with hM0 | hM0
  · subst hM0
    have hN1 : ¬ (N : Int) = 0 := by omega
    have hN2 : ¬ N = 0 := by omega
    have hN3 : ((N : Int) == 0) = false := by simpa using hN2
    clear hN0
    go_wp2_with fail
    refine (CA.out _ (O.tch.grown (fun _ h => h.elim))).mono ?_
    rintro e w ⟨rfl, g⟩
    replace O := O.call g
    clear g
    go_wp2_with fail
    go_ret
    exact ⟨rfl, O.tch.grown (fun _ h => h.elim)⟩
  have hN1 : ¬ (N : Int) = 0 := by omega
  have hN2 : ¬ N = 0 := by omega
  have hM1 : ¬ (M : Int) = 0 := by omega
  have hM2 : ¬ M = 0 := by omega
  have hN3 : ((N : Int) == 0) = false := by simpa using hN2
  have hM3 : ((M : Int) == 0) = false := by simpa using hM2
  have hkx : 0 < xs.length := by rw [HN.out]; exact hN0
  obtain ⟨g, o, c, hv, hgB, hrow⟩ := HXA.out 0 hkx
  have e1 := (Value.slice.inj hv).1
  subst e1
  rw [Nat.zero_mul, Nat.add_zero] at hrow
  obtain ⟨x, hx0⟩ : ∃ x, xs[0] = x := ⟨_, rfl⟩
  rw [hx0] at hrow
  obtain ⟨l0, hof, hfit⟩ := HFIT.out x (hx0 ▸ List.getElem_mem hkx)
  have XW := Lib.hid (hof.wf hfit.wf)
  have FX := Lib.hid hrow
  have hks : 0 < s.length := by rw [HM.out]; exact hM0
  obtain ⟨g2, o2, c2, hv2, hgB2, hrow2⟩ := HSA.out 0 hks
  have e2 := (Value.slice.inj hv2).1
  subst e2
  rw [Nat.zero_mul, Nat.add_zero] at hrow2
  obtain ⟨a0, ha0⟩ : ∃ x, s[0] = x := ⟨_, rfl⟩
  rw [ha0] at hrow2
  have ha0w : a0.wf := HSW.out a0 (ha0 ▸ List.getElem_mem hks)
  have F0 := Lib.hid (RowAt.one (hrow2 3 _ rfl))
  have CN := Lib.hid (fun w (O : OwF (fun _ => False) w0 w []) => kNew x l0 a0.now opt16 hof hfit ha0w.now opt16_wf HR.out O)
  have HS0 := Lib.hid (show (BcD.new l0 opt16).store.length + (BcD.new l0 opt16).pend.length ≤ 1 from Nat.le_refl _)
  obtain ⟨V, hV⟩ : ∃ z, bnewE l0 a0.now opt16 = z := ⟨_, rfl⟩
  rw [hV] at CN
  have hix : ¬ ((N : Int) ≤ 0) := by omega
  have hix2 : ¬ ((M : Int) ≤ 0) := by omega
  clear hrow hrow2 hof hfit ha0w hx0 ha0 hv hv2 hkx hks hV
  go_upto_region 4 with (fail)
  replace O := O.drew
  refine wp_region_J (rdf [(2, g, o, x.cells), (6, g2, (o2 + 3), [(.float .f64 a0.now)])]) [7, 8] (by kernel_rfl) (RdA.cons (FX.out.grown (O.tch.grown (fun _ h => h.elim)) (by simp)) (RdA.cons (F0.out.grown (O.tch.grown (fun _ h => h.elim)) (by simp)) RdA.nil)) (fun hH => ?_)
  refine wpAnyJ_pure (i := 0) (v := (.slice (some ⟨g, o, none⟩) N cp)) rfl (by kernel_rfl) (by kernel_rfl) (by kernel_rfl) (fun _ _ _ h => h) (by rfl) (Or.inl ⟨by rfl, fun W _ => by go_simp⟩) (Still.all hH) ?_
  simp only [Act.put, List.getElem_toArray, List.getElem_cons_zero, List.setIfInBounds_toArray, List.set_cons_zero, List.set_cons_succ]
  refine wpAnyJ_pure (i := 1) (v := (.pointer (some ⟨g, o, none⟩))) rfl (by kernel_rfl) (by kernel_rfl) (by kernel_rfl) (fun _ _ _ h => h) (by rfl) (Or.inl ⟨by rfl, fun W _ => by go_simp⟩) (Still.all hH) ?_
  simp only [Act.put, List.getElem_toArray, List.getElem_cons_succ, List.getElem_cons_zero, List.setIfInBounds_toArray, List.set_cons_zero, List.set_cons_succ]
  refine wpAnyJ_read 0 (i := 2) (v := (.agg (x.cells).toArray)) rfl rfl (by kernel_rfl) (by kernel_rfl) (by kernel_rfl) (fun _ _ _ h => h) (by rfl) (yieldsIf_load_mid (by rfl) 31 _ rfl g o rfl x.cells _ (fun W h => h) Tryz.underlying31 rfl (sizeLt _ XW.out)) (Still.all hH) ?_
  simp only [Act.put, List.getElem_toArray, List.getElem_cons_succ, List.getElem_cons_zero, List.setIfInBounds_toArray, List.set_cons_zero, List.set_cons_succ]
  refine wpAnyJ_pure (i := 3) (v := (.slice (some ⟨g2, o2, none⟩) M dp)) rfl (by kernel_rfl) (by kernel_rfl) (by kernel_rfl) (fun _ _ _ h => h) (by rfl) (Or.inl ⟨by rfl, fun W _ => by go_simp⟩) (Still.all hH) ?_
  simp only [Act.put, List.getElem_toArray, List.getElem_cons_succ, List.getElem_cons_zero, List.setIfInBounds_toArray, List.set_cons_zero, List.set_cons_succ]
  refine wpAnyJ_pure (i := 4) (v := (.pointer (some ⟨g2, o2, none⟩))) rfl (by kernel_rfl) (by kernel_rfl) (by kernel_rfl) (fun _ _ _ h => h) (by rfl) (Or.inl ⟨by rfl, fun W _ => by go_simp⟩) (Still.all hH) ?_
  simp only [Act.put, List.getElem_toArray, List.getElem_cons_succ, List.getElem_cons_zero, List.setIfInBounds_toArray, List.set_cons_zero, List.set_cons_succ]
  refine wpAnyJ_pure (i := 5) (v := (.pointer (some ⟨g2, o2 + 3, none⟩))) rfl (by kernel_rfl) (by kernel_rfl) (by kernel_rfl) (fun _ _ _ h => h) (by rfl) (Or.inl ⟨by rfl, fun W _ => by go_simp⟩) (Still.all hH) ?_
  simp only [Act.put, List.getElem_toArray, List.getElem_cons_succ, List.getElem_cons_zero, List.setIfInBounds_toArray, List.set_cons_zero, List.set_cons_succ]
  refine wpAnyJ_read 1 (i := 6) (v := (.float .f64 a0.now)) rfl rfl (by kernel_rfl) (by kernel_rfl) (by kernel_rfl) (fun _ _ _ h => h) (by rfl) (yields_cell (by rfl) 33 _ rfl g2 (o2 + 3) rfl (.float .f64 a0.now) _ (fun W h => h) Tryz.underlying33 rfl) (Still.all hH) ?_
  simp only [Act.put, List.getElem_toArray, List.getElem_cons_succ, List.getElem_cons_zero, List.setIfInBounds_toArray, List.set_cons_zero, List.set_cons_succ]
  refine wpAnyJ_ready (rs := [7]) (by kernel_rfl) (by simp) ?_
  refine AllJ.keep rfl (by rfl) (by rfl) (fun K hK => ?_) (AllJ.nil)
  refine wp_call 34 _ _ (by rfl) (enters Tryz.func34 (by kernel_rfl) rfl) (by rfl) (COP.out _) ?_
  rintro e u ⟨rfl, g1⟩
  refine ⟨_, rfl, ?_⟩
  replace O := O.call g1
  simp only [Act.put, List.getElem_toArray, List.getElem_cons_succ, List.getElem_cons_zero, List.setIfInBounds_toArray, List.set_cons_zero, List.set_cons_succ]
  refine hK.out _ _ (RdA.grown hH g1) ?_
  replace hH := RdA.grown hH g1
  clear hK K
  clear g1
  refine wpAnyJ_ready (rs := [8]) (by kernel_rfl) (by simp) ?_
  refine AllJ.turn rfl (by rfl) (by rfl) (fun K hK => ?_) (AllJ.nil)
  refine wp_call 35 _ _ (by rfl) (enters Tryz.func35 (by kernel_rfl) rfl) (by rfl) (CN.out _ O) ?_
  rintro e u ⟨P, rfl, g1, hN⟩
  refine ⟨_, rfl, ?_⟩
  have HK := Lib.hid hN
  clear hN
  replace O := O.call g1
  clear g1
  simp only [Act.put, List.getElem_toArray, List.getElem_cons_succ, List.getElem_cons_zero, List.setIfInBounds_toArray, List.set_cons_zero, List.set_cons_succ]
  refine hK.out _ _ (waits_all (by kernel_rfl)) ?_
  clear hK K hH
  refine wpAnyJ_pure (i := 9) (v := (.tuple #[P, .int .i64 V])) rfl (by kernel_rfl) (by kernel_rfl) (by kernel_rfl) (fun _ _ _ h => h) (by rfl) (Or.inl ⟨by rfl, fun W _ => by go_simp⟩) (Still.none (by kernel_rfl)) ?_
  simp only [Act.put, List.getElem_toArray, List.getElem_cons_succ, List.getElem_cons_zero, List.setIfInBounds_toArray, List.set_cons_zero, List.set_cons_succ]
  refine wpAnyJ_pure (i := 10) (v := P) rfl (by kernel_rfl) (by kernel_rfl) (by kernel_rfl) (fun _ _ _ h => h) (by rfl) (Or.inl ⟨by rfl, fun W _ => by go_simp⟩) (Still.none (by kernel_rfl)) ?_
  simp only [Act.put, List.getElem_toArray, List.getElem_cons_succ, List.getElem_cons_zero, List.setIfInBounds_toArray, List.set_cons_zero, List.set_cons_succ]
  refine wpAnyJ_pure (i := 11) (v := (.int .i64 V)) rfl (by kernel_rfl) (by kernel_rfl) (by kernel_rfl) (fun _ _ _ h => h) (by rfl) (Or.inl ⟨by rfl, fun W _ => by go_simp⟩) (Still.none (by kernel_rfl)) ?_
  simp only [Act.put, List.getElem_toArray, List.getElem_cons_succ, List.getElem_cons_zero, List.setIfInBounds_toArray, List.set_cons_zero, List.set_cons_succ]
  refine wpAnyJ_pure (i := 12) (v := P) rfl (by kernel_rfl) (by kernel_rfl) (by kernel_rfl) (fun _ _ _ h => h) (by rfl) (Or.inl ⟨by rfl, fun W _ => by go_simp⟩) (Still.none (by kernel_rfl)) ?_
  simp only [Act.put, List.getElem_toArray, List.getElem_cons_succ, List.getElem_cons_zero, List.setIfInBounds_toArray, List.set_cons_zero, List.set_cons_succ]
  refine wpAnyJ_pure (i := 13) (v := (.int .i64 V)) rfl (by kernel_rfl) (by kernel_rfl) (by kernel_rfl) (fun _ _ _ h => h) (by rfl) (Or.inl ⟨by rfl, fun W _ => by go_simp⟩) (Still.none (by kernel_rfl)) ?_
  simp only [Act.put, List.getElem_toArray, List.getElem_cons_succ, List.getElem_cons_zero, List.setIfInBounds_toArray, List.set_cons_zero, List.set_cons_succ]
  refine wpAnyJ_done (by kernel_rfl) ?_ _
  clear hix hix2
  rcases HK.out with ⟨h1, rfl⟩ | ⟨h1, p, rfl, H⟩
  · have d1 : (V != 0) = true := by simpa using h1
    clear h1
    go_wp2_with fail
    refine (CA.out _ (O.tch.grown (fun _ h => h.elim))).mono ?_
    rintro e w ⟨rfl, g⟩
    replace O := O.call g
    clear g
    go_wp2_with fail
    go_ret
    exact ⟨rfl, O.tch.grown (fun _ h => h.elim)⟩
  subst h1
  clear O HK CN
  replace H := Lib.hid H
  go_wp2_with fail
  go_loopw [10] (fun i wr => ∃ (k : Nat) (c : BcD), 1 ≤ k ∧ k ≤ 40 ∧ k ≤ M ∧ i = .int .i64 k ∧ Kept16 125 w0 wr [] [] p c ∧ c.store.length + c.pend.length ≤ k) (fun i _ => 41 - (intOf i).toNat)
  case atStart => exact ⟨1, _, Nat.le_refl _, by omega, hM0, rfl, H.out, HS0.out⟩
  case round =>
    clear H HS0
    obtain ⟨k, c0, hk1, hk40, hkM, rfl, hH, htot⟩ := hrel
    have H := Lib.hid hH; have HT := Lib.hid htot
    clear hH htot
    by_cases hlt : k < M
    case neg =>
      obtain rfl : k = M := by omega
      have CS := Lib.hid (kStore H.out)
      go_wp2_with fail
      refine CS.out.mono ?_
      rintro e w1 ⟨a1, n1, k1, rfl, hn1, H1⟩
      have CP := Lib.hid (kPrune H1 n HNN.out)
      have HSS := Lib.hid (show n < 1 → c0.prune n = (c0, 1) from fun h => by unfold BcD.prune; rw [if_pos h])
      have HSN := Lib.hid (show ¬ n < 1 → c0.prune n = ({ c0 with pend := [], want := 0, frm := -1, store := c0.store.drop (c0.store.length - n.toNat) }, 0) from fun h => by unfold BcD.prune; rw [if_neg h])
      have HOK := Lib.hid H1.ok
      have H1K := Lib.hid hn1
      clear H CS HT hn1 H1
      by_cases c1 : n < 1
      · have CP2 := CP.out
        rw [HSS.out c1] at CP2
        replace CP2 := Lib.hid CP2
        clear CP HSN HSS
        go_wp2_with fail
        refine CP2.out.mono ?_
        rintro e w2 ⟨rfl, H2⟩
        have CS2 := Lib.hid (kStore H2)
        clear H2
        go_wp2_with fail
        refine CS2.out.mono ?_
        rintro e w3 ⟨a3, n3, k3, rfl, hn3, H3⟩
        have H := Lib.hid H3
        clear hn3 H3
        go_wp2_with fail
        refine (CA.out _ H.out.g).mono ?_
        rintro e w ⟨rfl, g⟩
        replace H := Lib.hid (H.out.grown g)
        clear g
        obtain ⟨J1, r1⟩ := H.out.row 0 rfl
        obtain ⟨J2, r2⟩ := H.out.row 1 rfl
        have CE := Lib.hid (same_ok _ r1 r2)
        clear r1 r2
        go_wp2_with fail
        refine CE.out.mono ?_
        rintro e w4 ⟨rfl, g⟩
        have HG := Lib.hid (H.out.g.trans g)
        clear g
        go_wp2_with fail
        go_ret
        exact ⟨rfl, HG.out⟩
      · have CP2 := CP.out
        rw [HSN.out c1] at CP2
        replace CP2 := Lib.hid CP2
        clear CP HSN HSS
        go_wp2_with fail
        refine CP2.out.mono ?_
        rintro e w2 ⟨rfl, H2⟩
        have CS2 := Lib.hid (kStore H2)
        clear H2
        go_wp2_with fail
        refine CS2.out.mono ?_
        rintro e w3 ⟨a3, n3, k3, rfl, hn3, H3⟩
        have H := Lib.hid H3
        clear hn3 H3
        have hn1p : 0 < n1 := by have := List.length_pos_iff.2 HOK.out.some; have := H1K.out; omega
        obtain ⟨nn, hnn⟩ : ∃ nn : Nat, min n (n1 : Int) = (nn : Int) := ⟨(min n (n1 : Int)).toNat, by omega⟩
        have hnr : 1 ≤ nn ∧ nn ≤ n1 ∧ (nn = n.toNat ∨ (nn = n1 ∧ n1 ≤ n.toNat)) := by omega
        obtain ⟨f, hf⟩ : ∃ f, n1 - nn = f := ⟨_, rfl⟩
        have hsub : (n1 : Int) - (nn : Int) = (f : Int) := by omega
        have hfl : f < n1 := by omega
        have hdr : c0.store.length - n.toNat = f := by have := H1K.out; omega
        have HDR := Lib.hid hdr
        obtain ⟨J1, r1⟩ := H.out.row 1 rfl
        obtain ⟨g9, o9, c9, y9, hv9, hc9, hcm9, hg9, r9, p9, i9, f9⟩ := r1.get 0 (by have := H1K.out; omega)
        have e9 := (Value.slice.inj hv9).1; have e8 := (Value.slice.inj hv9).2.2
        subst e9 e8
        have hle9 : n1 ≤ k1 := by have := H1K.out; omega
        unfold maxLen at hcm9
        have hcapf : ¬ k1 = f := by omega
        have hcapfi : ¬ (k1 : Int) = (f : Int) := by omega
        have hfi : (f : Int) ≤ (n1 : Int) := by omega
        have ewf := IntWalk.i64_in (f : Int) (by omega)
        have HLE := Lib.hid hle9
        have HFL := Lib.hid (Nat.le_of_lt hfl)
        clear hv9 r1 r9 p9 i9 f9 y9 hc9 hg9 hnr hf hdr
        go_wp2_with fail
        refine (CA.out _ H.out.g).mono ?_
        rintro e w ⟨rfl, g⟩
        replace H := Lib.hid (H.out.grown g)
        clear g
        have CE : ∀ u, w.grownBy u none → Calls Tryz.prog 41 #[.slice a3 n3 k3, .slice (some ⟨g9, o9 + f * 200, none⟩) (n1 - f) (k1 - f)] u fun e w' => e = .returned (.bool true) ∧ u.grownBy w' none := fun u gg => by
          obtain ⟨J1, r1⟩ := (H.out.grown gg).row 0 rfl
          obtain ⟨J2, r2⟩ := (H.out.grown gg).row 1 rfl
          try dsimp only at r1
          rw [HDR.out] at r1
          have hl := H1K.out
          rw [hl] at r2 ⊢
          exact same_ok _ r1 (r2.drop (by have := HFL.out; omega))
        have CE2 := Lib.hid (CE _ (gb_refl _))
        clear CE
        go_wp2_with fail
        refine CE2.out.mono ?_
        rintro e w5 ⟨rfl, g⟩
        replace H := Lib.hid (H.out.grown g)
        clear g
        have CW2 := Lib.hid (kWant H.out)
        go_wp2_with fail
        refine CW2.out.mono ?_
        rintro e w6 ⟨rfl, g⟩
        replace H := Lib.hid (H.out.grown g)
        clear g
        have CT2 := Lib.hid (kTrace H.out)
        go_wp2_with fail
        refine CT2.out.mono ?_
        rintro e w7 ⟨a7, n7, k7, rfl, hn7, H7⟩
        have HG := Lib.hid H7.g
        obtain rfl : n7 = 0 := hn7
        clear H7
        go_wp2_with fail
        go_ret
        exact ⟨rfl, HG.out⟩
    by_cases h40 : k < 40
    case neg =>
      obtain rfl : k = 40 := by omega
      have CS := Lib.hid (kStore H.out)
      go_wp2_with fail
      refine CS.out.mono ?_
      rintro e w1 ⟨a1, n1, k1, rfl, hn1, H1⟩
      have CP := Lib.hid (kPrune H1 n HNN.out)
      have HSS := Lib.hid (show n < 1 → c0.prune n = (c0, 1) from fun h => by unfold BcD.prune; rw [if_pos h])
      have HSN := Lib.hid (show ¬ n < 1 → c0.prune n = ({ c0 with pend := [], want := 0, frm := -1, store := c0.store.drop (c0.store.length - n.toNat) }, 0) from fun h => by unfold BcD.prune; rw [if_neg h])
      have HOK := Lib.hid H1.ok
      have H1K := Lib.hid hn1
      clear H CS HT hn1 H1
      by_cases c1 : n < 1
      · have CP2 := CP.out
        rw [HSS.out c1] at CP2
        replace CP2 := Lib.hid CP2
        clear CP HSN HSS
        go_wp2_with fail
        refine CP2.out.mono ?_
        rintro e w2 ⟨rfl, H2⟩
        have CS2 := Lib.hid (kStore H2)
        clear H2
        go_wp2_with fail
        refine CS2.out.mono ?_
        rintro e w3 ⟨a3, n3, k3, rfl, hn3, H3⟩
        have H := Lib.hid H3
        clear hn3 H3
        go_wp2_with fail
        refine (CA.out _ H.out.g).mono ?_
        rintro e w ⟨rfl, g⟩
        replace H := Lib.hid (H.out.grown g)
        clear g
        obtain ⟨J1, r1⟩ := H.out.row 0 rfl
        obtain ⟨J2, r2⟩ := H.out.row 1 rfl
        have CE := Lib.hid (same_ok _ r1 r2)
        clear r1 r2
        go_wp2_with fail
        refine CE.out.mono ?_
        rintro e w4 ⟨rfl, g⟩
        have HG := Lib.hid (H.out.g.trans g)
        clear g
        go_wp2_with fail
        go_ret
        exact ⟨rfl, HG.out⟩
      · have CP2 := CP.out
        rw [HSN.out c1] at CP2
        replace CP2 := Lib.hid CP2
        clear CP HSN HSS
        go_wp2_with fail
        refine CP2.out.mono ?_
        rintro e w2 ⟨rfl, H2⟩
        have CS2 := Lib.hid (kStore H2)
        clear H2
        go_wp2_with fail
        refine CS2.out.mono ?_
        rintro e w3 ⟨a3, n3, k3, rfl, hn3, H3⟩
        have H := Lib.hid H3
        clear hn3 H3
        have hn1p : 0 < n1 := by have := List.length_pos_iff.2 HOK.out.some; have := H1K.out; omega
        obtain ⟨nn, hnn⟩ : ∃ nn : Nat, min n (n1 : Int) = (nn : Int) := ⟨(min n (n1 : Int)).toNat, by omega⟩
        have hnr : 1 ≤ nn ∧ nn ≤ n1 ∧ (nn = n.toNat ∨ (nn = n1 ∧ n1 ≤ n.toNat)) := by omega
        obtain ⟨f, hf⟩ : ∃ f, n1 - nn = f := ⟨_, rfl⟩
        have hsub : (n1 : Int) - (nn : Int) = (f : Int) := by omega
        have hfl : f < n1 := by omega
        have hdr : c0.store.length - n.toNat = f := by have := H1K.out; omega
        have HDR := Lib.hid hdr
        obtain ⟨J1, r1⟩ := H.out.row 1 rfl
        obtain ⟨g9, o9, c9, y9, hv9, hc9, hcm9, hg9, r9, p9, i9, f9⟩ := r1.get 0 (by have := H1K.out; omega)
        have e9 := (Value.slice.inj hv9).1; have e8 := (Value.slice.inj hv9).2.2
        subst e9 e8
        have hle9 : n1 ≤ k1 := by have := H1K.out; omega
        unfold maxLen at hcm9
        have hcapf : ¬ k1 = f := by omega
        have hcapfi : ¬ (k1 : Int) = (f : Int) := by omega
        have hfi : (f : Int) ≤ (n1 : Int) := by omega
        have ewf := IntWalk.i64_in (f : Int) (by omega)
        have HLE := Lib.hid hle9
        have HFL := Lib.hid (Nat.le_of_lt hfl)
        clear hv9 r1 r9 p9 i9 f9 y9 hc9 hg9 hnr hf hdr
        go_wp2_with fail
        refine (CA.out _ H.out.g).mono ?_
        rintro e w ⟨rfl, g⟩
        replace H := Lib.hid (H.out.grown g)
        clear g
        have CE : ∀ u, w.grownBy u none → Calls Tryz.prog 41 #[.slice a3 n3 k3, .slice (some ⟨g9, o9 + f * 200, none⟩) (n1 - f) (k1 - f)] u fun e w' => e = .returned (.bool true) ∧ u.grownBy w' none := fun u gg => by
          obtain ⟨J1, r1⟩ := (H.out.grown gg).row 0 rfl
          obtain ⟨J2, r2⟩ := (H.out.grown gg).row 1 rfl
          try dsimp only at r1
          rw [HDR.out] at r1
          have hl := H1K.out
          rw [hl] at r2 ⊢
          exact same_ok _ r1 (r2.drop (by have := HFL.out; omega))
        have CE2 := Lib.hid (CE _ (gb_refl _))
        clear CE
        go_wp2_with fail
        refine CE2.out.mono ?_
        rintro e w5 ⟨rfl, g⟩
        replace H := Lib.hid (H.out.grown g)
        clear g
        have CW2 := Lib.hid (kWant H.out)
        go_wp2_with fail
        refine CW2.out.mono ?_
        rintro e w6 ⟨rfl, g⟩
        replace H := Lib.hid (H.out.grown g)
        clear g
        have CT2 := Lib.hid (kTrace H.out)
        go_wp2_with fail
        refine CT2.out.mono ?_
        rintro e w7 ⟨a7, n7, k7, rfl, hn7, H7⟩
        have HG := Lib.hid H7.g
        obtain rfl : n7 = 0 := hn7
        clear H7
        go_wp2_with fail
        go_ret
        exact ⟨rfl, HG.out⟩
    have hks : k < s.length := by rw [HM.out]; exact hlt
    obtain ⟨g3, o3, c3, hv2, hgB2, hrow2⟩ := HSA.out k hks
    have e2 := (Value.slice.inj hv2).1
    injection e2 with e2
    injection e2 with e2a e2b _
    subst e2a e2b
    obtain ⟨a, ha⟩ : ∃ x, s[k] = x := ⟨_, rfl⟩
    rw [ha] at hrow2
    have HAW := Lib.hid (show a.wf from HSW.out a (ha ▸ List.getElem_mem hks))
    have FA := Lib.hid (hrow2.grown H.out.g (by simp))
    have CGa := Lib.hid (CG.out a HAW.out)
    have hix : ¬ ((M : Int) ≤ (k : Int)) := by omega
    clear hrow2 ha hv2 hks
    have O := H.out.O
    go_upto_if 76 with (first | ((with_reducible refine @wpList_at _ _ _ _ _ _ _ (.load 78 (.tmp 72)) rfl ?_); refine wpList_load_part rfl 78 _ rfl g2 ((o2 + k * 4)) rfl a.cells _ (FA.out.grown (O.tch.grown (fun b h => by obtain ⟨e, he, _⟩ := h; cases he)) (by simp)) Tryz.underlying78 rfl (sizeAct a) ?_) | ((with_reducible refine @wpList_at _ _ _ _ _ _ _ (.alloc 78) rfl ?_); refine @wpList_of_alloc _ _ _ _ _ _ _ _ _ _ 78 rfl ZAct ZAct_info O rfl ?_; clear O; intro ba w O) | ((with_reducible refine @wpList_at _ _ _ _ _ _ _ (.store 78 (.tmp 11) (.tmp 73)) rfl ?_); refine @wpList_of_store _ _ _ _ _ _ _ _ _ _ 78 (.tmp 11) (.tmp 73) rfl O 0 ba rfl a.cells ZAct _ rfl rfl rfl (ActD_one a) (sizeAct a) rfl ?_; clear O; intro w O; simp only [List.set_cons_zero] at O) | ((with_reducible refine @wpList_at _ _ _ _ _ _ _ (.load 3 (.tmp 74)) rfl ?_); refine @wpList_of_cell _ _ _ _ _ _ _ _ _ _ 3 (.tmp 74) rfl O 0 ba 0 rfl _ _ rfl _ rfl _ Tryz.underlying3 rfl rfl ?_))
    replace H := Lib.hid (H.out.move O)
    go_cut [] from 74 to 80 (fun w' => ∃ c1 : BcD, Kept16 125 w0 w' [(ba, a.cells, 78)] [] p c1 ∧ c1.store.length + c1.pend.length ≤ k)
    case first =>
      by_cases c1 : a.kind = 1
      · have d1 : (a.kind == 1) = true := by simpa using c1
        have CGo := Lib.hid (kGoal H.out a.n)
        have HG := Lib.hid (goal_total c0 a.n)
        go_wp2_with (first | ((with_reducible refine @wpList_at _ _ _ _ _ _ _ (.load 3 (.tmp 78)) rfl ?_); refine @wpList_of_cell _ _ _ _ _ _ _ _ _ _ 3 (.tmp 78) rfl O 0 ba 1 rfl _ _ rfl _ rfl _ Tryz.underlying3 rfl rfl ?_))
        refine CGo.out.mono ?_
        rintro e w ⟨rfl, H2⟩
        go_wp2_with fail
        go_meet
        case rel => exact ⟨_, H2, Nat.le_trans HG.out HT.out⟩
      · have d1 : (a.kind == 1) = false := by simpa using c1
        go_wp2_with fail
        go_meet
        case rel => exact ⟨c0, H.out, HT.out⟩
    clear O H HT
    obtain ⟨c1, H, HT⟩ := hcut
    have CW := Lib.hid (fun u (gg : wc.grownBy u none) => kWant (H.grown gg))
    have CGw := Lib.hid (fun u (gg : wc.grownBy u none) => CGa.out c1.want u (H.g.trans gg))
    have BA := Lib.hid (H.own _ (List.mem_cons_self)).row
    replace H := Lib.hid H; replace HT := Lib.hid HT
    have O := OwF.start (fun _ => False) wc
    go_upto_region 13 with (fail)
    go_cut [12, 13] from 82 to 88 (fun s12 s13 w' => ∃ bx y b, s12 = .pointer (some ⟨bx, 0, none⟩) ∧ s13 = .bool b ∧ y.wf ∧ (b = true → y ∈ xs ∧ (a.kind ≠ 2 → y.header.height = c1.want)) ∧ Kept16 125 w0 w' [(ba, a.cells, 78), (bx, y.cells, 31)] [] p c1)
    case first =>
      replace O := O.drew
      refine wp_region_J (rdf [(0, ba, 0, a.cells)]) [3, 4, 8, 9] (by kernel_rfl) (RdA.cons (BA.out.grown (O.tch.grown (fun _ h => h.elim)) (by simp)) RdA.nil) (fun hH => ?_)
      refine wpAnyJ_read 0 (i := 0) (v := (.agg (a.cells).toArray)) rfl rfl (by kernel_rfl) (by kernel_rfl) (by kernel_rfl) (fun _ _ _ h => h) (by rfl) (yieldsIf_load_mid (by rfl) 78 _ rfl ba 0 rfl a.cells _ (fun W h => h) Tryz.underlying78 rfl (sizeAct a)) (Still.all hH) ?_
      simp only [Act.put, List.getElem_toArray, List.getElem_cons_zero, List.setIfInBounds_toArray, List.set_cons_zero, List.set_cons_succ]
      refine wpAnyJ_pure (i := 1) (v := (.slice (some ⟨g, o, none⟩) N cp)) rfl (by kernel_rfl) (by kernel_rfl) (by kernel_rfl) (fun _ _ _ h => h) (by rfl) (Or.inl ⟨by rfl, fun W _ => by go_simp⟩) (Still.all hH) ?_
      simp only [Act.put, List.getElem_toArray, List.getElem_cons_succ, List.getElem_cons_zero, List.setIfInBounds_toArray, List.set_cons_zero, List.set_cons_succ]
      refine wpAnyJ_pure (i := 2) (v := (.pointer (some ⟨p, 0, none⟩))) rfl (by kernel_rfl) (by kernel_rfl) (by kernel_rfl) (fun _ _ _ h => h) (by rfl) (Or.inl ⟨by rfl, fun W _ => by go_simp⟩) (Still.all hH) ?_
      simp only [Act.put, List.getElem_toArray, List.getElem_cons_succ, List.getElem_cons_zero, List.setIfInBounds_toArray, List.set_cons_zero, List.set_cons_succ]
      refine wpAnyJ_ready (rs := [3, 8]) (by kernel_rfl) (by simp) ?_
      refine AllJ.keep rfl (by rfl) (by rfl) (fun K hK => ?_) (AllJ.keep rfl (by rfl) (by rfl) (fun K hK => ?_) (AllJ.nil))
      · refine wp_call 39 _ _ (by rfl) (enters Tryz.func39 (by kernel_rfl) rfl) (by rfl) (CW.out _ (O.tch.grown (fun _ h => h.elim))) ?_
        rintro e u ⟨rfl, g1⟩
        refine ⟨_, rfl, ?_⟩
        replace O := O.call g1
        simp only [Act.put, List.getElem_toArray, List.getElem_cons_succ, List.getElem_cons_zero, List.setIfInBounds_toArray, List.set_cons_zero, List.set_cons_succ]
        refine hK.out _ _ (RdA.grown hH g1) ?_
        replace hH := RdA.grown hH g1
        clear hK K
        clear g1
        refine wpAnyJ_ready (rs := [4, 8]) (by kernel_rfl) (by simp) ?_
        refine AllJ.keep rfl (by rfl) (by rfl) (fun K hK => ?_) (AllJ.keep rfl (by rfl) (by rfl) (fun K hK => ?_) (AllJ.nil))
        · refine wp_call 38 _ _ (by rfl) (enters Tryz.func38 (by kernel_rfl) rfl) (by rfl) (CGw.out _ (O.tch.grown (fun _ h => h.elim))) ?_
          rintro e u ⟨g1, y, b, hyw, rfl, hyb⟩
          refine ⟨_, rfl, ?_⟩
          have YW := Lib.hid hyw; have HYB := Lib.hid hyb
          clear hyw hyb
          replace O := O.call g1
          simp only [Act.put, List.getElem_toArray, List.getElem_cons_succ, List.getElem_cons_zero, List.setIfInBounds_toArray, List.set_cons_zero, List.set_cons_succ]
          refine hK.out _ _ (RdA.grown hH g1) ?_
          replace hH := RdA.grown hH g1
          clear hK K
          clear g1
          refine wpAnyJ_pure (i := 5) (v := (.tuple #[.agg y.cells.toArray, .bool b])) rfl (by kernel_rfl) (by kernel_rfl) (by kernel_rfl) (fun _ _ _ h => h) (by rfl) (Or.inl ⟨by rfl, fun W _ => by go_simp⟩) (Still.all hH) ?_
          simp only [Act.put, List.getElem_toArray, List.getElem_cons_succ, List.getElem_cons_zero, List.setIfInBounds_toArray, List.set_cons_zero, List.set_cons_succ]
          refine wpAnyJ_pure (i := 6) (v := (.agg y.cells.toArray)) rfl (by kernel_rfl) (by kernel_rfl) (by kernel_rfl) (fun _ _ _ h => h) (by rfl) (Or.inl ⟨by rfl, fun W _ => by go_simp⟩) (Still.all hH) ?_
          simp only [Act.put, List.getElem_toArray, List.getElem_cons_succ, List.getElem_cons_zero, List.setIfInBounds_toArray, List.set_cons_zero, List.set_cons_succ]
          refine wpAnyJ_pure (i := 7) (v := (.bool b)) rfl (by kernel_rfl) (by kernel_rfl) (by kernel_rfl) (fun _ _ _ h => h) (by rfl) (Or.inl ⟨by rfl, fun W _ => by go_simp⟩) (Still.all hH) ?_
          simp only [Act.put, List.getElem_toArray, List.getElem_cons_succ, List.getElem_cons_zero, List.setIfInBounds_toArray, List.set_cons_zero, List.set_cons_succ]
          refine wpAnyJ_ready (rs := [8]) (by kernel_rfl) (by simp) ?_
          refine AllJ.keep rfl (by rfl) (by rfl) (fun K hK => ?_) (AllJ.nil)
          refine wp_of_alloc 31 rfl ZLt0 ZLt0_info O ?_
          clear O
          intro bx u g1 O
          simp only [Act.put, List.getElem_toArray, List.getElem_cons_succ, List.getElem_cons_zero, List.setIfInBounds_toArray, List.set_cons_zero, List.set_cons_succ]
          refine hK.out _ _ (RdA.grown hH g1) ?_
          replace hH := RdA.grown hH g1
          clear hK K
          clear g1
          refine wpAnyJ_ready (rs := [9]) (by kernel_rfl) (by simp) ?_
          refine AllJ.turn rfl (by rfl) (by rfl) (fun K hK => ?_) (AllJ.nil)
          refine wp_of_store 31 _ _ rfl O 0 bx rfl y.cells ZLt0 _ rfl rfl (LtR.cells_length _ YW.out) (LtR_one _) (sizeLt _ YW.out) ?_
          clear O
          intro u O
          simp only [List.set_cons_zero] at O
          simp only [Act.put, List.getElem_toArray, List.getElem_cons_succ, List.getElem_cons_zero]
          refine hK.out _ _ (waits_all (by kernel_rfl)) ?_
          clear hK K hH
          refine wpAnyJ_pure (i := 10) (v := (.bool b)) rfl (by kernel_rfl) (by kernel_rfl) (by kernel_rfl) (fun _ _ _ h => h) (by rfl) (Or.inl ⟨by rfl, fun W _ => by go_simp⟩) (Still.none (by kernel_rfl)) ?_
          simp only [Act.put, List.getElem_toArray, List.getElem_cons_succ, List.getElem_cons_zero, List.setIfInBounds_toArray, List.set_cons_zero, List.set_cons_succ]
          refine wpAnyJ_done (by kernel_rfl) ?_ _
          go_wp2
          go_meet
          case rel => exact ⟨bx, y, b, rfl, rfl, YW.out, HYB.out, H.out.joins O⟩
        · refine wp_of_alloc 31 rfl ZLt0 ZLt0_info O ?_
          clear O
          intro bx u g1 O
          simp only [Act.put, List.getElem_toArray, List.getElem_cons_succ, List.getElem_cons_zero, List.setIfInBounds_toArray, List.set_cons_zero, List.set_cons_succ]
          refine hK.out _ _ (RdA.grown hH g1) ?_
          replace hH := RdA.grown hH g1
          clear hK K
          clear g1
          refine wpAnyJ_ready (rs := [4]) (by kernel_rfl) (by simp) ?_
          refine AllJ.keep rfl (by rfl) (by rfl) (fun K hK => ?_) (AllJ.nil)
          refine wp_call 38 _ _ (by rfl) (enters Tryz.func38 (by kernel_rfl) rfl) (by rfl) (CGw.out _ (O.tch.grown (fun _ h => h.elim))) ?_
          rintro e u ⟨g1, y, b, hyw, rfl, hyb⟩
          refine ⟨_, rfl, ?_⟩
          have YW := Lib.hid hyw; have HYB := Lib.hid hyb
          clear hyw hyb
          replace O := O.call g1
          simp only [Act.put, List.getElem_toArray, List.getElem_cons_succ, List.getElem_cons_zero, List.setIfInBounds_toArray, List.set_cons_zero, List.set_cons_succ]
          refine hK.out _ _ (RdA.grown hH g1) ?_
          replace hH := RdA.grown hH g1
          clear hK K
          clear g1
          refine wpAnyJ_pure (i := 5) (v := (.tuple #[.agg y.cells.toArray, .bool b])) rfl (by kernel_rfl) (by kernel_rfl) (by kernel_rfl) (fun _ _ _ h => h) (by rfl) (Or.inl ⟨by rfl, fun W _ => by go_simp⟩) (Still.all hH) ?_
          simp only [Act.put, List.getElem_toArray, List.getElem_cons_succ, List.getElem_cons_zero, List.setIfInBounds_toArray, List.set_cons_zero, List.set_cons_succ]
          refine wpAnyJ_pure (i := 6) (v := (.agg y.cells.toArray)) rfl (by kernel_rfl) (by kernel_rfl) (by kernel_rfl) (fun _ _ _ h => h) (by rfl) (Or.inl ⟨by rfl, fun W _ => by go_simp⟩) (Still.all hH) ?_
          simp only [Act.put, List.getElem_toArray, List.getElem_cons_succ, List.getElem_cons_zero, List.setIfInBounds_toArray, List.set_cons_zero, List.set_cons_succ]
          refine wpAnyJ_pure (i := 7) (v := (.bool b)) rfl (by kernel_rfl) (by kernel_rfl) (by kernel_rfl) (fun _ _ _ h => h) (by rfl) (Or.inl ⟨by rfl, fun W _ => by go_simp⟩) (Still.all hH) ?_
          simp only [Act.put, List.getElem_toArray, List.getElem_cons_succ, List.getElem_cons_zero, List.setIfInBounds_toArray, List.set_cons_zero, List.set_cons_succ]
          refine wpAnyJ_ready (rs := [9]) (by kernel_rfl) (by simp) ?_
          refine AllJ.turn rfl (by rfl) (by rfl) (fun K hK => ?_) (AllJ.nil)
          refine wp_of_store 31 _ _ rfl O 0 bx rfl y.cells ZLt0 _ rfl rfl (LtR.cells_length _ YW.out) (LtR_one _) (sizeLt _ YW.out) ?_
          clear O
          intro u O
          simp only [List.set_cons_zero] at O
          simp only [Act.put, List.getElem_toArray, List.getElem_cons_succ, List.getElem_cons_zero]
          refine hK.out _ _ (waits_all (by kernel_rfl)) ?_
          clear hK K hH
          refine wpAnyJ_pure (i := 10) (v := (.bool b)) rfl (by kernel_rfl) (by kernel_rfl) (by kernel_rfl) (fun _ _ _ h => h) (by rfl) (Or.inl ⟨by rfl, fun W _ => by go_simp⟩) (Still.none (by kernel_rfl)) ?_
          simp only [Act.put, List.getElem_toArray, List.getElem_cons_succ, List.getElem_cons_zero]
          refine wpAnyJ_done (by kernel_rfl) ?_ _
          go_wp2
          go_meet
          case rel => exact ⟨bx, y, b, rfl, rfl, YW.out, HYB.out, H.out.joins O⟩
      · refine wp_of_alloc 31 rfl ZLt0 ZLt0_info O ?_
        clear O
        intro bx u g1 O
        simp only [Act.put, List.getElem_toArray, List.getElem_cons_succ, List.getElem_cons_zero, List.setIfInBounds_toArray, List.set_cons_zero, List.set_cons_succ]
        refine hK.out _ _ (RdA.grown hH g1) ?_
        replace hH := RdA.grown hH g1
        clear hK K
        clear g1
        refine wpAnyJ_ready (rs := [3]) (by kernel_rfl) (by simp) ?_
        refine AllJ.keep rfl (by rfl) (by rfl) (fun K hK => ?_) (AllJ.nil)
        refine wp_call 39 _ _ (by rfl) (enters Tryz.func39 (by kernel_rfl) rfl) (by rfl) (CW.out _ (O.tch.grown (fun _ h => h.elim))) ?_
        rintro e u ⟨rfl, g1⟩
        refine ⟨_, rfl, ?_⟩
        replace O := O.call g1
        simp only [Act.put, List.getElem_toArray, List.getElem_cons_succ, List.getElem_cons_zero, List.setIfInBounds_toArray, List.set_cons_zero, List.set_cons_succ]
        refine hK.out _ _ (RdA.grown hH g1) ?_
        replace hH := RdA.grown hH g1
        clear hK K
        clear g1
        refine wpAnyJ_ready (rs := [4]) (by kernel_rfl) (by simp) ?_
        refine AllJ.keep rfl (by rfl) (by rfl) (fun K hK => ?_) (AllJ.nil)
        refine wp_call 38 _ _ (by rfl) (enters Tryz.func38 (by kernel_rfl) rfl) (by rfl) (CGw.out _ (O.tch.grown (fun _ h => h.elim))) ?_
        rintro e u ⟨g1, y, b, hyw, rfl, hyb⟩
        refine ⟨_, rfl, ?_⟩
        have YW := Lib.hid hyw; have HYB := Lib.hid hyb
        clear hyw hyb
        replace O := O.call g1
        simp only [Act.put, List.getElem_toArray, List.getElem_cons_succ, List.getElem_cons_zero, List.setIfInBounds_toArray, List.set_cons_zero, List.set_cons_succ]
        refine hK.out _ _ (RdA.grown hH g1) ?_
        replace hH := RdA.grown hH g1
        clear hK K
        clear g1
        refine wpAnyJ_pure (i := 5) (v := (.tuple #[.agg y.cells.toArray, .bool b])) rfl (by kernel_rfl) (by kernel_rfl) (by kernel_rfl) (fun _ _ _ h => h) (by rfl) (Or.inl ⟨by rfl, fun W _ => by go_simp⟩) (Still.all hH) ?_
        simp only [Act.put, List.getElem_toArray, List.getElem_cons_succ, List.getElem_cons_zero, List.setIfInBounds_toArray, List.set_cons_zero, List.set_cons_succ]
        refine wpAnyJ_pure (i := 6) (v := (.agg y.cells.toArray)) rfl (by kernel_rfl) (by kernel_rfl) (by kernel_rfl) (fun _ _ _ h => h) (by rfl) (Or.inl ⟨by rfl, fun W _ => by go_simp⟩) (Still.all hH) ?_
        simp only [Act.put, List.getElem_toArray, List.getElem_cons_succ, List.getElem_cons_zero, List.setIfInBounds_toArray, List.set_cons_zero, List.set_cons_succ]
        refine wpAnyJ_pure (i := 7) (v := (.bool b)) rfl (by kernel_rfl) (by kernel_rfl) (by kernel_rfl) (fun _ _ _ h => h) (by rfl) (Or.inl ⟨by rfl, fun W _ => by go_simp⟩) (Still.all hH) ?_
        simp only [Act.put, List.getElem_toArray, List.getElem_cons_succ, List.getElem_cons_zero, List.setIfInBounds_toArray, List.set_cons_zero, List.set_cons_succ]
        refine wpAnyJ_ready (rs := [9]) (by kernel_rfl) (by simp) ?_
        refine AllJ.turn rfl (by rfl) (by rfl) (fun K hK => ?_) (AllJ.nil)
        refine wp_of_store 31 _ _ rfl O 0 bx rfl y.cells ZLt0 _ rfl rfl (LtR.cells_length _ YW.out) (LtR_one _) (sizeLt _ YW.out) ?_
        clear O
        intro u O
        simp only [List.set_cons_zero] at O
        simp only [Act.put, List.getElem_toArray, List.getElem_cons_succ, List.getElem_cons_zero]
        refine hK.out _ _ (waits_all (by kernel_rfl)) ?_
        clear hK K hH
        refine wpAnyJ_pure (i := 10) (v := (.bool b)) rfl (by kernel_rfl) (by kernel_rfl) (by kernel_rfl) (fun _ _ _ h => h) (by rfl) (Or.inl ⟨by rfl, fun W _ => by go_simp⟩) (Still.none (by kernel_rfl)) ?_
        simp only [Act.put, List.getElem_toArray, List.getElem_cons_succ, List.getElem_cons_zero, List.setIfInBounds_toArray, List.set_cons_zero, List.set_cons_succ]
        refine wpAnyJ_done (by kernel_rfl) ?_ _
        go_wp2
        go_meet
        case rel => exact ⟨bx, y, b, rfl, rfl, YW.out, HYB.out, H.out.joins O⟩
    clear O H CW CGw BA
    obtain ⟨bx, y, b, rfl, rfl, hyw, hyb, H⟩ := hcut
    have XW := Lib.hid hyw; have HYB := Lib.hid hyb
    have O := H.O
    replace H := Lib.hid H
    clear hyw hyb
    by_cases c3 : a.kind = 3
    case neg =>
      have d3 : (a.kind == 3) = false := by simpa using c3
      go_wp2_with (first | ((with_reducible refine @wpList_at _ _ _ _ _ _ _ (.load 3 (.tmp 89)) rfl ?_); refine @wpList_of_cell _ _ _ _ _ _ _ _ _ _ 3 (.tmp 89) rfl O 0 ba 0 rfl _ _ rfl _ rfl _ Tryz.underlying3 rfl rfl ?_) | ((with_reducible refine @wpList_at _ _ _ _ _ _ _ (.load 31 (.tmp 12)) rfl ?_); refine @wpList_of_whole _ _ _ _ _ _ _ _ _ _ 31 (.tmp 12) rfl O 1 bx rfl y.cells _ rfl _ Tryz.underlying31 rfl (sizeLt _ XW.out) rfl ?_) | ((with_reducible refine @wpList_at _ _ _ _ _ _ _ (.load 33 (.tmp 97)) rfl ?_); refine @wpList_of_cell _ _ _ _ _ _ _ _ _ _ 33 (.tmp 97) rfl O 0 ba 3 rfl _ _ rfl _ rfl _ Tryz.underlying33 rfl rfl ?_))
      exact ⟨⟨k + 1, c1, by omega, by omega, by omega, by go_num, H.out.bare, Nat.le_succ_of_le HT.out⟩, by simp [intOf]; omega⟩
    have d3 : (a.kind == 3) = true := by simpa using c3
    cases b with
    | false =>
      go_wp2_with (first | ((with_reducible refine @wpList_at _ _ _ _ _ _ _ (.load 3 (.tmp 89)) rfl ?_); refine @wpList_of_cell _ _ _ _ _ _ _ _ _ _ 3 (.tmp 89) rfl O 0 ba 0 rfl _ _ rfl _ rfl _ Tryz.underlying3 rfl rfl ?_) | ((with_reducible refine @wpList_at _ _ _ _ _ _ _ (.load 31 (.tmp 12)) rfl ?_); refine @wpList_of_whole _ _ _ _ _ _ _ _ _ _ 31 (.tmp 12) rfl O 1 bx rfl y.cells _ rfl _ Tryz.underlying31 rfl (sizeLt _ XW.out) rfl ?_) | ((with_reducible refine @wpList_at _ _ _ _ _ _ _ (.load 33 (.tmp 97)) rfl ?_); refine @wpList_of_cell _ _ _ _ _ _ _ _ _ _ 33 (.tmp 97) rfl O 0 ba 3 rfl _ _ rfl _ rfl _ Tryz.underlying33 rfl rfl ?_))
      exact ⟨⟨k + 1, c1, by omega, by omega, by omega, by go_num, H.out.bare, Nat.le_succ_of_le HT.out⟩, by simp [intOf]; omega⟩
    | true =>
    obtain ⟨l, hof, hfit⟩ := HFIT.out y (HYB.out (by trivial)).1
    have CV := Lib.hid (kGive H.out y l hof hfit a.now HAW.out.now HR.out (by have := HT.out; omega))
    have HG := Lib.hid (give_total c1 l a.now)
    clear hof hfit
    go_wp2_with (first | ((with_reducible refine @wpList_at _ _ _ _ _ _ _ (.load 3 (.tmp 89)) rfl ?_); refine @wpList_of_cell _ _ _ _ _ _ _ _ _ _ 3 (.tmp 89) rfl O 0 ba 0 rfl _ _ rfl _ rfl _ Tryz.underlying3 rfl rfl ?_) | ((with_reducible refine @wpList_at _ _ _ _ _ _ _ (.load 31 (.tmp 12)) rfl ?_); refine @wpList_of_whole _ _ _ _ _ _ _ _ _ _ 31 (.tmp 12) rfl O 1 bx rfl y.cells _ rfl _ Tryz.underlying31 rfl (sizeLt _ XW.out) rfl ?_) | ((with_reducible refine @wpList_at _ _ _ _ _ _ _ (.load 33 (.tmp 97)) rfl ?_); refine @wpList_of_cell _ _ _ _ _ _ _ _ _ _ 33 (.tmp 97) rfl O 0 ba 3 rfl _ _ rfl _ rfl _ Tryz.underlying33 rfl rfl ?_))
    refine CV.out.mono ?_
    rintro e w2 ⟨rfl, H2⟩
    have HH := Lib.hid H2
    clear H2
    go_wp2_with fail
    exact ⟨⟨k + 1, _, by omega, by omega, by omega, by go_num, HH.out.bare, by have := HG.out; have := HT.out; omega⟩, by simp [intOf]; omega⟩

end Go.Proofs.YtdhchehagfmjcaaGreatDoor
