/- Walk: nunciolaw16.BisectFetches. -/
import Derived.Test.YtdhchehagfmjcaaGreatDoorBq
namespace Go.Proofs.YtdhchehagfmjcaaGreatDoor
open Go.RowKit
set_option maxRecDepth 100000

theorem bAct3 : Tryz.prog.built 78 [(0, .int .i64 3)] = some (⟨3, 0, 0, 0⟩ : ActD).cells.toArray := by kernel_rfl
/-- what has been given so far -/
structure Fed (xs : List LtR) (l0 : LightD) (c : BcD) (goal frm : Int) (k : Nat) (H : List Int) : Prop where
  f : FInv c goal frm H
  len : H.length = k
  fet : c.fet = k
  total : c.store.length + c.pend.length ≤ k + 1
  first : firstB c.store = l0
  ins : ∀ h ∈ H, h ∈ xs.map (·.header.height)
  done : c.want = 0 → (lastB c.store).header.height = goal
theorem Fed.few {xs : List LtR} {l0 : LightD} {c : BcD} {goal frm : Int} {k : Nat} {H : List Int} (h : Fed xs l0 c goal frm k H) (hx : xs.length ≤ 14) : k ≤ 14 := by
  have := nodup_len _ _ h.f.nd h.ins
  rw [List.length_map, h.len] at this
  omega
theorem Fed.lo {xs : List LtR} {l0 : LightD} {c : BcD} {goal frm : Int} {k : Nat} {H : List Int} (h : Fed xs l0 c goal frm k H) : (k : Int) ≤ max (goal - frm) 0 := by
  have := range_len h.f.nd (fun x hx => ⟨(h.f.all x hx).1, (h.f.all x hx).2.1⟩)
  rwa [h.len] at this
theorem Fed.next {xs : List LtR} {l0 : LightD} {c : BcD} {goal frm : Int} {k : Nat} {H : List Int} (h : Fed xs l0 c goal frm k H) (hx : xs.length ≤ 14) {l : LightD} {now : Nat} (hw : c.want ≠ 0) (hl : l.header.height = c.want) (hch : l.header.chain = l0.header.chain) (hm : c.want ∈ xs.map (·.header.height)) :
    (k : Int) + 1 ≤ max (goal - frm) 0 ∧ ((c.give l now).2 ≠ 0 → (c.give l now).1.want = 0) ∧ ((c.give l now).2 = 0 → Fed xs l0 (c.give l now).1 goal frm (k + 1) (c.want :: H)) := by
  have hk := h.few hx
  obtain ⟨s1, s2, s3, s4⟩ := fetch_step (now := now) h.f hw hl (by rw [h.first]; exact hch) (by rw [h.fet]; omega)
  obtain ⟨n1, n2, n3⟩ := fetch_new h.f hw
  refine ⟨?_, s3, fun e => ?_⟩
  · have := range_len (H := c.want :: H) (a := frm) (b := goal) (List.nodup_cons.2 ⟨n1, h.f.nd⟩) (fun x hx => by
      rcases List.mem_cons.1 hx with rfl | hx
      · exact ⟨n2, n3⟩
      · exact ⟨(h.f.all x hx).1, (h.f.all x hx).2.1⟩)
    rw [List.length_cons, h.len] at this
    omega
  · obtain ⟨t1, t2⟩ := s4 e
    refine ⟨t1, by rw [List.length_cons, h.len], by rw [s1, h.fet]; omega, Nat.le_trans (give_total c l now) (by have := h.total; omega), by rw [s2]; exact h.first, fun x hx => ?_, t2⟩
    rcases List.mem_cons.1 hx with rfl | hx
    · exact hm
    · exact h.ins x hx
set_option maxHeartbeats 4000000 in
theorem BisectFetches_any (v : Value) (xs : List LtR) (now lev : Nat) (w0 : World) (hx : Came w0 v xs) (hnow : now < 18446744073709551616) (hlev : lev < 18446744073709551616) (hR : RowAt w0 1 0 (wCells rootsL)) :
    Calls Tryz.prog 10 #[v, .float .f64 now, .float .f64 lev] w0 fun e w' => e = .returned (.bool true) ∧ w0.grownBy w' none := by
  have O := OwF.start (fun _ => False) w0
  have CA := Lib.hid (fun w (g : w0.grownBy w none) => alive16_ok w (hR.grown g (by simp)))
  have HXA := Lib.hid (fun k hk => lts_at hx.row hx.wf k hk)
  have HX := Lib.hid hx; have HR := Lib.hid hR
  have CG := Lib.hid (fun (a : ActD) (ha : a.wf) (z : Int) w (g : w0.grownBy w none) => given_ok a v xs z w (hx.row.grown g) hx.wf ha)
  have CF := few_ok v xs w0 hx.row hx.wf
  have COP := Lib.hid (fun w => options_ok w)
  have HNW := Lib.hid hnow
  obtain ⟨oD, hoD⟩ : ∃ d : OptD, d = ⟨lev, 4652007308841189376, 4621819117588971520⟩ := ⟨_, rfl⟩
  have HOW := Lib.hid (show oD.wf by rw [hoD]; exact ⟨hlev, show (4652007308841189376 : Nat) < 18446744073709551616 by decide, show (4621819117588971520 : Nat) < 18446744073709551616 by decide⟩)
  have HOC := Lib.hid (show opt16.cells.set 0 (.float .f64 lev) = oD.cells by rw [hoD]; rfl)
  obtain ⟨ao, cp, rfl, hle, hcm, _, _⟩ := hx.row
  unfold maxLen at hcm
  obtain ⟨N, hN⟩ : ∃ n, xs.length = n := ⟨_, rfl⟩
  rw [hN] at hle CG
  rw [hN]
  have HN := Lib.hid hN
  obtain ⟨q, hq⟩ : ∃ q, (decide (xs.length ≤ 14) && xs.all fewLt) = q := ⟨_, rfl⟩
  rw [hq] at CF
  have HFIT : Hid (q = true → ∀ x ∈ xs, ∃ l, x.of w0.heap.size w0 l ∧ l.fit) := Lib.hid (fun h => by
    rw [h, Bool.and_eq_true] at hq
    exact HX.out.fit hq.2)
  have H14 : Hid (q = true → xs.length ≤ 14) := Lib.hid (fun h => by
    rw [h, Bool.and_eq_true] at hq
    simpa using hq.1)
  replace CF := Lib.hid CF
  rw [hN] at CF
  clear hx hR hN hq hnow hlev hoD
  go_enter Tryz.func10, Tryz.ntmps10
  go_wp2_with fail
  refine CF.out.mono ?_
  rintro e w ⟨rfl, g⟩
  replace O := O.call g
  clear g
  cases q with
  | false =>
    go_wp2_with fail
    refine (CA.out _ (O.tch.grown (fun _ h => h.elim))).mono ?_
    rintro e w ⟨rfl, g⟩
    replace O := O.call g
    clear g
    go_wp2_with fail
    go_ret
    exact ⟨rfl, O.tch.grown (fun _ h => h.elim)⟩
  | true =>
  replace HFIT := Lib.hid (HFIT.out (by trivial)); replace H14 := Lib.hid (H14.out (by trivial))
  by_cases hN2 : N < 2
  · have hN2i : (N : Int) < 2 := by omega
    go_wp2_with fail
    refine (CA.out _ (O.tch.grown (fun _ h => h.elim))).mono ?_
    rintro e w ⟨rfl, g⟩
    replace O := O.call g
    clear g
    go_wp2_with fail
    go_ret
    exact ⟨rfl, O.tch.grown (fun _ h => h.elim)⟩
  have hN2i : ¬ (N : Int) < 2 := by omega
  have hN0 : 0 < N := by omega
  have hkx : 0 < xs.length := by rw [HN.out]; exact hN0
  obtain ⟨g, o, c, hv, hgB, hrow⟩ := HXA.out 0 hkx
  have e1 := (Value.slice.inj hv).1
  subst e1
  rw [Nat.zero_mul, Nat.add_zero] at hrow
  obtain ⟨x, hx0⟩ : ∃ x, xs[0] = x := ⟨_, rfl⟩
  rw [hx0] at hrow
  obtain ⟨l0, hof, hfit⟩ := HFIT.out x (hx0 ▸ List.getElem_mem hkx)
  have XW := Lib.hid (hof.wf hfit.wf)
  have FX := Lib.hid hrow
  obtain ⟨m, hm⟩ : ∃ m, N = m + 1 := ⟨N - 1, by omega⟩
  have hkm : m < xs.length := by rw [HN.out]; omega
  obtain ⟨g5, o5, c5, hv5, _, hrow5⟩ := HXA.out m hkm
  have e5 := (Value.slice.inj hv5).1
  injection e5 with e5
  injection e5 with e5a e5b _
  subst e5a e5b
  obtain ⟨GH, hGH⟩ : ∃ z, (xs[m]).header.height = z := ⟨_, rfl⟩
  obtain ⟨FH, hFH⟩ : ∃ z, x.header.height = z := ⟨_, rfl⟩
  have P9 := Lib.hid (show w0.cell? ⟨g, o + m * 200 + 1, none⟩ = some (.int .i64 GH) by rw [← hGH]; exact hrow5 1 _ rfl)
  have P10 := Lib.hid (show w0.cell? ⟨g, o + 1, none⟩ = some (.int .i64 FH) by rw [← hFH]; exact hrow 1 _ rfl)
  have PC := Lib.hid (show w0.cell? ⟨g, o, none⟩ = some (.string x.header.chain) from hrow 0 _ rfl)
  have HF1 := Lib.hid (show l0.header.height = FH by rw [← hFH, hof.header])
  have HCH := Lib.hid hof.header
  have hsubm : ((N : Int) - 1) = (m : Int) := by omega
  have ewm := IntWalk.i64_in (m : Int) (by omega)
  have CN := fun bq => Lib.hid (fun w (O : OwF (fun _ => False) w0 w [(bq, oD.cells, 35)]) => kNew x l0 now oD hof hfit HNW.out HOW.out HR.out O)
  obtain ⟨V, hV⟩ : ∃ z, bnewE l0 now oD = z := ⟨_, rfl⟩
  rw [hV] at CN
  have HOKL : Hid (V = 0 → hOk l0) := Lib.hid (fun h => bnew_hOk (hV.trans h))
  have HMEM : Hid (∀ y ∈ xs, y.header.height ∈ xs.map (·.header.height)) := Lib.hid (fun y hy => List.mem_map_of_mem hy)
  have hix : ¬ ((N : Int) ≤ 0) := by omega
  have hixm : ¬ ((N : Int) ≤ (m : Int)) := by omega
  clear hrow hof hfit hx0 hv hkx hV hrow5 hv5 hkm hGH hFH hm
  go_wp2_with fail
  refine (COP.out _).mono ?_
  rintro e w ⟨rfl, g⟩
  replace O := O.call g
  clear g
  go_upto_region 6 with (first | ((with_reducible refine @wpList_at _ _ _ _ _ _ _ (.alloc 35) rfl ?_); refine @wpList_of_alloc _ _ _ _ _ _ _ _ _ _ 35 rfl ZOpt ZOpt_info O rfl ?_; clear O; intro bq w O) | ((with_reducible refine @wpList_at _ _ _ _ _ _ _ (.store 35 (.tmp 8) (.tmp 28)) rfl ?_); refine @wpList_of_store _ _ _ _ _ _ _ _ _ _ 35 (.tmp 8) (.tmp 28) rfl O 0 bq rfl opt16.cells ZOpt _ rfl rfl rfl opt_one sizeOpt rfl ?_; clear O; intro w O; simp only [List.set_cons_zero] at O) | ((with_reducible refine @wpList_at _ _ _ _ _ _ _ (.store 33 (.tmp 30) (.tmp 29)) rfl ?_); refine @wpList_of_store_cell _ _ _ _ _ _ _ _ _ _ 33 (.tmp 30) (.tmp 29) rfl O 0 bq 0 rfl (.float .f64 lev) rfl (by kernel_rfl) _ _ rfl (by show (0 : Nat) < 3; decide) rfl rfl ?_; clear O; intro w O; simp only [List.set_cons_zero] at O))
  rw [HOC.out] at O
  replace CN := CN bq
  replace O := O.drew
  refine wp_region_J (rdf [(2, g, o, x.cells), (4, bq, 0, oD.cells)]) [5] (by kernel_rfl) (RdA.cons (FX.out.grown (O.tch.grown (fun _ h => h.elim)) (by simp)) (RdA.cons (O.row_of (g := bq) (T := 35) (by simp)) RdA.nil)) (fun hH => ?_)
  refine wpAnyJ_pure (i := 0) (v := (.slice (some ⟨g, o, none⟩) N cp)) rfl (by kernel_rfl) (by kernel_rfl) (by kernel_rfl) (fun _ _ _ h => h) (by rfl) (Or.inl ⟨by rfl, fun W _ => by go_simp⟩) (Still.all hH) ?_
  simp only [Act.put, List.getElem_toArray, List.getElem_cons_zero, List.setIfInBounds_toArray, List.set_cons_zero, List.set_cons_succ]
  refine wpAnyJ_pure (i := 1) (v := (.pointer (some ⟨g, o, none⟩))) rfl (by kernel_rfl) (by kernel_rfl) (by kernel_rfl) (fun _ _ _ h => h) (by rfl) (Or.inl ⟨by rfl, fun W _ => by go_simp⟩) (Still.all hH) ?_
  simp only [Act.put, List.getElem_toArray, List.getElem_cons_succ, List.getElem_cons_zero, List.setIfInBounds_toArray, List.set_cons_zero, List.set_cons_succ]
  refine wpAnyJ_read 0 (i := 2) (v := (.agg (x.cells).toArray)) rfl rfl (by kernel_rfl) (by kernel_rfl) (by kernel_rfl) (fun _ _ _ h => h) (by rfl) (yieldsIf_load_mid (by rfl) 31 _ rfl g o rfl x.cells _ (fun W h => h) Tryz.underlying31 rfl (sizeLt _ XW.out)) (Still.all hH) ?_
  simp only [Act.put, List.getElem_toArray, List.getElem_cons_succ, List.getElem_cons_zero, List.setIfInBounds_toArray, List.set_cons_zero, List.set_cons_succ]
  refine wpAnyJ_pure (i := 3) (v := (.float .f64 now)) rfl (by kernel_rfl) (by kernel_rfl) (by kernel_rfl) (fun _ _ _ h => h) (by rfl) (Or.inl ⟨by rfl, fun W _ => by go_simp⟩) (Still.all hH) ?_
  simp only [Act.put, List.getElem_toArray, List.getElem_cons_succ, List.getElem_cons_zero, List.setIfInBounds_toArray, List.set_cons_zero, List.set_cons_succ]
  refine wpAnyJ_read 1 (i := 4) (v := (.agg (oD.cells).toArray)) rfl rfl (by kernel_rfl) (by kernel_rfl) (by kernel_rfl) (fun _ _ _ h => h) (by rfl) (yieldsIf_load_mid (by rfl) 35 _ rfl bq 0 rfl oD.cells _ (fun W h => h) Tryz.underlying35 rfl sizeOpt) (Still.all hH) ?_
  simp only [Act.put, List.getElem_toArray, List.getElem_cons_succ, List.getElem_cons_zero, List.setIfInBounds_toArray, List.set_cons_zero, List.set_cons_succ]
  refine wpAnyJ_ready (rs := [5]) (by kernel_rfl) (by simp) ?_
  refine AllJ.turn rfl (by rfl) (by rfl) (fun K hK => ?_) (AllJ.nil)
  refine wp_call 35 _ _ (by rfl) (enters Tryz.func35 (by kernel_rfl) rfl) (by rfl) (CN.out _ O) ?_
  rintro e u ⟨P, rfl, g1, hN⟩
  refine ⟨_, rfl, ?_⟩
  have HK := Lib.hid hN
  clear hN
  replace O := O.call g1
  clear g1
  simp only [Act.put, List.getElem_toArray, List.getElem_cons_succ, List.getElem_cons_zero, List.setIfInBounds_toArray, List.set_cons_zero, List.set_cons_succ]
  refine hK.out _ _ (waits_all (by kernel_rfl)) ?_
  clear hK K hH
  refine wpAnyJ_pure (i := 6) (v := (.tuple #[P, .int .i64 V])) rfl (by kernel_rfl) (by kernel_rfl) (by kernel_rfl) (fun _ _ _ h => h) (by rfl) (Or.inl ⟨by rfl, fun W _ => by go_simp⟩) (Still.none (by kernel_rfl)) ?_
  simp only [Act.put, List.getElem_toArray, List.getElem_cons_succ, List.getElem_cons_zero, List.setIfInBounds_toArray, List.set_cons_zero, List.set_cons_succ]
  refine wpAnyJ_pure (i := 7) (v := P) rfl (by kernel_rfl) (by kernel_rfl) (by kernel_rfl) (fun _ _ _ h => h) (by rfl) (Or.inl ⟨by rfl, fun W _ => by go_simp⟩) (Still.none (by kernel_rfl)) ?_
  simp only [Act.put, List.getElem_toArray, List.getElem_cons_succ, List.getElem_cons_zero, List.setIfInBounds_toArray, List.set_cons_zero, List.set_cons_succ]
  refine wpAnyJ_pure (i := 8) (v := (.int .i64 V)) rfl (by kernel_rfl) (by kernel_rfl) (by kernel_rfl) (fun _ _ _ h => h) (by rfl) (Or.inl ⟨by rfl, fun W _ => by go_simp⟩) (Still.none (by kernel_rfl)) ?_
  simp only [Act.put, List.getElem_toArray, List.getElem_cons_succ, List.getElem_cons_zero, List.setIfInBounds_toArray, List.set_cons_zero, List.set_cons_succ]
  refine wpAnyJ_pure (i := 9) (v := P) rfl (by kernel_rfl) (by kernel_rfl) (by kernel_rfl) (fun _ _ _ h => h) (by rfl) (Or.inl ⟨by rfl, fun W _ => by go_simp⟩) (Still.none (by kernel_rfl)) ?_
  simp only [Act.put, List.getElem_toArray, List.getElem_cons_succ, List.getElem_cons_zero, List.setIfInBounds_toArray, List.set_cons_zero, List.set_cons_succ]
  refine wpAnyJ_pure (i := 10) (v := (.int .i64 V)) rfl (by kernel_rfl) (by kernel_rfl) (by kernel_rfl) (fun _ _ _ h => h) (by rfl) (Or.inl ⟨by rfl, fun W _ => by go_simp⟩) (Still.none (by kernel_rfl)) ?_
  simp only [Act.put, List.getElem_toArray, List.getElem_cons_succ, List.getElem_cons_zero, List.setIfInBounds_toArray, List.set_cons_zero, List.set_cons_succ]
  refine wpAnyJ_done (by kernel_rfl) ?_ _
  rcases HK.out with ⟨h1, rfl⟩ | ⟨h1, p, rfl, H⟩
  · have d1 : (V != 0) = true := by simpa using h1
    clear h1
    go_wp2_with fail
    refine (CA.out _ (O.tch.grown (fun _ h => h.elim))).mono ?_
    rintro e w ⟨rfl, g⟩
    replace O := O.call g
    clear g
    go_wp2_with fail
    go_ret
    exact ⟨rfl, O.tch.grown (fun _ h => h.elim)⟩
  have HOL := HOKL.out h1
  subst h1
  clear O HK CN
  replace H := Lib.hid H
  have p9 := (RowAt.one P9.out).grown H.out.g (by simp) |>.at_one
  have p10 := (RowAt.one P10.out).grown H.out.g (by simp) |>.at_one
  have hrl := HOL
  have HOL2 := Lib.hid HOL
  clear HOL hrl
  by_cases hgf : GH ≤ FH
  · have d2 : decide (GH ≤ FH) = true := decide_eq_true hgf
    go_wp2_with fail
    go_wp2_with fail
    refine (CA.out _ H.out.g).mono ?_
    rintro e w ⟨rfl, g⟩
    replace H := Lib.hid (H.out.grown g)
    clear g
    go_wp2_with fail
    go_ret
    exact ⟨rfl, H.out.g⟩
  have d2 : decide (GH ≤ FH) = false := decide_eq_false hgf
  have CGo := Lib.hid (kGoal H.out GH)
  have HGL : Hid (((BcD.new l0 oD).goal GH).2 = 0 → Fed xs l0 ((BcD.new l0 oD).goal GH).1 GH FH 0 []) := Lib.hid (fun e => by
    by_cases c1 : 1099511627776 < GH
    · unfold BcD.goal at e
      rw [if_pos c1] at e
      exact absurd e (show ¬ (1 : Int) = 0 by decide)
    have hlb : (lastB (BcD.new l0 oD).store) = l0 := rfl
    have c2 : ¬ GH ≤ (lastB (BcD.new l0 oD).store).header.height := by rw [hlb, HF1.out]; exact hgf
    obtain ⟨k1, _⟩ := goal_inv (c := BcD.new l0 oD) (by simp [BcD.new]) HOL2.out c1 c2
    have hk := goal_keeps (BcD.new l0 oD) GH
    have ef : ((BcD.new l0 oD).goal GH).1.fet = 0 := by unfold BcD.goal; rw [if_neg c1, if_neg c2]
    have ew : ((BcD.new l0 oD).goal GH).1.want = GH := by unfold BcD.goal; rw [if_neg c1, if_neg c2]
    refine ⟨⟨k1, List.nodup_nil, ?_, by simp⟩, rfl, ef, Nat.le_trans (goal_total _ _) (Nat.le_refl _), by rw [hk.2]; rfl, by simp, fun h => ?_⟩
    · rw [hk.2]; show FH ≤ hL l0; unfold hL; rw [HF1.out]; exact Int.le_refl _
    · rw [ew] at h
      have := HOL2.out.1; have := HF1.out; omega)
  have HPOS := Lib.hid (show 1 ≤ FH from by rw [← HF1.out]; exact HOL2.out.1)
  have HMX : Hid (((BcD.new l0 oD).goal GH).2 = 0 → GH ≤ 1099511627776) := Lib.hid (fun e => by
    by_cases c1 : 1099511627776 < GH
    · unfold BcD.goal at e
      rw [if_pos c1] at e
      exact absurd e (show ¬ (1 : Int) = 0 by decide)
    · omega)
  go_wp2_with fail
  refine CGo.out.mono ?_
  rintro e w ⟨rfl, H2⟩
  replace H := Lib.hid H2
  clear H2 CGo
  obtain ⟨E, hE⟩ : ∃ z, ((BcD.new l0 oD).goal GH).2 = z := ⟨_, rfl⟩
  obtain ⟨c0, hc0⟩ : ∃ z, ((BcD.new l0 oD).goal GH).1 = z := ⟨_, rfl⟩
  rw [hE] at HGL HMX ⊢; rw [hc0] at HGL H
  clear hE hc0
  by_cases hE0 : E = 0
  case neg =>
    have d3 : (E != 0) = true := by simpa using hE0
    go_wp2_with fail
    go_wp2_with fail
    refine (CA.out _ H.out.g).mono ?_
    rintro e w ⟨rfl, g⟩
    replace H := Lib.hid (H.out.grown g)
    clear g
    go_wp2_with fail
    go_ret
    exact ⟨rfl, H.out.g⟩
  have HFD := Lib.hid (HGL.out hE0)
  have hmx := HMX.out hE0
  subst hE0
  clear HGL HMX p9 p10 d2
  have hpos := HPOS.out
  have HRG := Lib.hid (show FH < GH ∧ GH ≤ 1099511627776 ∧ 1 ≤ FH from ⟨by omega, hmx, hpos⟩)
  clear hmx hpos hgf
  go_wp2_with fail
  go_loopw [13] (fun i wr => ∃ (k : Nat) (c : BcD) (Hs : List Int), i = .int .i64 k ∧ Kept16 125 w0 wr [(bq, oD.cells, 35)] [] p c ∧ Fed xs l0 c GH FH k Hs) (fun i _ => 16 - (intOf i).toNat)
  case atStart => exact ⟨0, c0, [], rfl, H.out, HFD.out⟩
  case round =>
    clear H HFD
    obtain ⟨k, c1, Hs, rfl, hH, hfd⟩ := hrel
    have H := Lib.hid hH; have HFD := Lib.hid hfd
    have HK14 := Lib.hid (hfd.few H14.out)
    have hk14 := HK14.out
    have HLO := Lib.hid hfd.lo
    clear hH hfd
    have CW := Lib.hid (kWant H.out)
    have hwr := H.out.ok.want
    obtain ⟨W, hW⟩ : ∃ z, c1.want = z := ⟨_, rfl⟩
    rw [hW] at CW hwr
    have HW := Lib.hid hW
    clear hW
    have hk28 : (k : Int) ≤ 28 := by omega
    have hk28n : k ≤ 28 := by omega
    by_cases hw0 : W = 0
    · subst hw0
      clear hwr
      go_wp2_with fail
      refine CW.out.mono ?_
      rintro e w1 ⟨rfl, g1⟩
      replace H := Lib.hid (H.out.grown g1)
      clear g1 CW
      have CS := Lib.hid (kStore H.out)
      go_wp2_with fail
      refine CS.out.mono ?_
      rintro e w2 ⟨a1, n1, k1, rfl, hn1, H1⟩
      replace H := Lib.hid H1
      have H1K := Lib.hid hn1
      clear H1 hn1 CS
      go_wp2_with fail
      refine (CA.out _ H.out.g).mono ?_
      rintro e w ⟨rfl, g⟩
      replace H := Lib.hid (H.out.grown g)
      clear g
      have hrg := HRG.out
      have hlo := HLO.out
      rw [Int.max_eq_left (by omega)] at hlo
      have ews := IntWalk.i64_in (GH - FH) (by omega)
      have ewt := IntWalk.i64_in (2 * (GH - FH)) (by omega)
      have d5 : decide ((k : Int) < 2 * (GH - FH)) = true := decide_eq_true (by omega)
      have CFt := Lib.hid (kFetches H.out)
      have hfet := HFD.out.fet
      rw [hfet] at CFt
      clear hlo hrg hfet
      go_wp2_with fail
      refine CFt.out.mono ?_
      rintro e w5 ⟨rfl, g⟩
      replace H := Lib.hid (H.out.grown g)
      clear g CFt
      obtain ⟨J1, r1⟩ := H.out.row 0 rfl
      have hsp := List.length_pos_iff.2 H.out.ok.some
      obtain ⟨mm, hmm⟩ : ∃ mm, c1.store.length = mm + 1 := ⟨c1.store.length - 1, by omega⟩
      obtain ⟨g9, o9, c9, x9, hv9, hle9, hcm9, hg9, hrow9, hof9, i9, f9⟩ := r1.get mm (by omega)
      rw [lastB_at hmm] at hof9
      have e9 := (Value.slice.inj hv9).1; have e8 := (Value.slice.inj hv9).2.2; have e7 := (Value.slice.inj hv9).2.1
      rw [hmm] at e7
      subst e9 e8 e7
      unfold maxLen at hcm9
      rw [hmm] at hle9
      have c91 : w5.cell? ⟨g9, o9 + mm * 200 + 1, none⟩ = some (.int .i64 GH) := by
        have := hrow9 1 _ rfl
        rw [hof9.header, HFD.out.done HW.out] at this
        exact this
      have ewm2 := IntWalk.i64_in (mm : Int) (by omega)
      have hsb : (((mm + 1 : Nat) : Int) - 1) = (mm : Int) := by omega
      have hsb2 : ((mm : Int) + 1 - 1) = (mm : Int) := by omega
      have hixx : ¬ ((mm : Int) + 1 ≤ (mm : Int)) := by omega
      clear hv9 r1 hg9 i9 f9 hrow9 hof9 hsp hmm
      go_wp2_with fail
      go_ret
      exact ⟨rfl, H.out.g⟩
    have hwp : 0 < W := by omega
    have CW2 := Lib.hid (fun u (gg : wr.grownBy u none) => kWant (H.out.grown gg))
    have CGw := Lib.hid (fun u (gg : wr.grownBy u none) => CG.out ⟨3, 0, 0, 0⟩ ⟨by unfold i64R; decide, by unfold i64R; decide, by unfold i64R; decide, by decide⟩ W u (H.out.g.trans gg))
    rw [HW.out] at CW2
    go_wp2_with fail
    refine CW.out.mono ?_
    rintro e w1 ⟨rfl, g1⟩
    have HG1 := Lib.hid g1
    clear g1 CW
    go_wp2_with (first | ((with_reducible refine @wpList_at _ _ _ _ _ _ _ (.build 78 #[(0, .const (.int .i64 3))]) rfl ?_); refine wpList_build_eq rfl 78 _ rfl [(0, .int .i64 3)] (by kernel_rfl) (⟨3, 0, 0, 0⟩ : ActD).cells bAct3 ?_) | ((with_reducible refine @wpList_at _ _ _ _ _ _ _ (.alloc 31) rfl ?_); refine @wpList_of_alloc _ _ _ _ _ _ _ _ _ _ 31 rfl ZLt0 ZLt0_info O rfl ?_; clear O; intro bx w O) | ((with_reducible refine @wpList_at _ _ _ _ _ _ _ (.store 31 (.tmp 14) (.tmp 91)) rfl ?_); refine @wpList_of_store _ _ _ _ _ _ _ _ _ _ 31 (.tmp 14) (.tmp 91) rfl O 0 bx rfl y.cells ZLt0 _ rfl rfl (LtR.cells_length _ YW.out) (LtR_one _) (sizeLt _ YW.out) rfl ?_; clear O; intro w O; simp only [List.set_cons_zero] at O))
    refine (CW2.out _ HG1.out).mono ?_
    rintro e w2 ⟨rfl, g2⟩
    have HG2 := Lib.hid (HG1.out.trans g2)
    clear g2
    go_wp2_with fail
    refine (CGw.out _ HG2.out).mono ?_
    rintro e w3 ⟨g3, y, b, hyw, rfl, hyb⟩
    replace H := Lib.hid (H.out.grown (HG2.out.trans g3))
    have YW := Lib.hid hyw; have HYB := Lib.hid hyb
    have O := H.out.O
    clear g3 hyw hyb CW2 CGw
    go_upto_region 16 with (first | ((with_reducible refine @wpList_at _ _ _ _ _ _ _ (.build 78 #[(0, .const (.int .i64 3))]) rfl ?_); refine wpList_build_eq rfl 78 _ rfl [(0, .int .i64 3)] (by kernel_rfl) (⟨3, 0, 0, 0⟩ : ActD).cells bAct3 ?_) | ((with_reducible refine @wpList_at _ _ _ _ _ _ _ (.alloc 31) rfl ?_); refine @wpList_of_alloc _ _ _ _ _ _ _ _ _ _ 31 rfl ZLt0 ZLt0_info O rfl ?_; clear O; intro bx w O) | ((with_reducible refine @wpList_at _ _ _ _ _ _ _ (.store 31 (.tmp 14) (.tmp 91)) rfl ?_); refine @wpList_of_store _ _ _ _ _ _ _ _ _ _ 31 (.tmp 14) (.tmp 91) rfl O 0 bx rfl y.cells ZLt0 _ rfl rfl (LtR.cells_length _ YW.out) (LtR_one _) (sizeLt _ YW.out) rfl ?_; clear O; intro w O; simp only [List.set_cons_zero] at O))
    replace H := Lib.hid (H.out.move O)
    have q0 := ((O.at_ 0 rfl).row 0 (.string y.header.chain) rfl)
    rw [Nat.zero_add] at q0
    have q1 := ((RowAt.one PC.out).grown H.out.g (by simp)).at_one
    clear O
    cases b with
    | false =>
      go_quiet (fail)
      replace H := Lib.hid (H.out.grown (gb_drewN _ nq))
      go_wp2_with fail
      refine (CA.out _ H.out.g).mono ?_
      rintro e w ⟨rfl, g⟩
      replace H := Lib.hid (H.out.grown g)
      clear g
      go_wp2_with fail
      go_ret
      exact ⟨rfl, H.out.g⟩
    | true =>
    obtain ⟨hyx, hyh⟩ := HYB.out (by trivial)
    by_cases hch : y.header.chain = x.header.chain
    case neg =>
      have q3 := str_ne hch
      go_quiet (fail)
      replace H := Lib.hid (H.out.grown (gb_drewN _ nq))
      go_wp2_with fail
      refine (CA.out _ H.out.g).mono ?_
      rintro e w ⟨rfl, g⟩
      replace H := Lib.hid (H.out.grown g)
      clear g
      go_wp2_with fail
      go_ret
      exact ⟨rfl, H.out.g⟩
    rw [← hch] at q1
    obtain ⟨l, hof, hfit⟩ := HFIT.out y hyx
    have hfet := H14.out
    have CV := Lib.hid (fun u gg => kGive (H.out.grown (w' := u) gg) y l hof hfit now HNW.out HR.out (by have := HFD.out.total; omega))
    have HNX := Lib.hid (HFD.out.next (l := l) (now := now) H14.out (by rw [HW.out]; exact hw0) (by rw [← hof.header, hyh (by decide), HW.out]) (by rw [← hof.header, ← HCH.out]; exact hch) (by rw [HW.out, ← hyh (by decide)]; exact HMEM.out y hyx))
    rw [HW.out] at HNX
    have O := H.out.O
    have ZY := Lib.hid hch
    clear hof hfit hfet hyh hyx hch
    go_quiet (fail)
    replace O := O.drewN nq
    go_wp2_with (first | ((with_reducible refine @wpList_at _ _ _ _ _ _ _ (.load 31 (.tmp 14)) rfl ?_); refine @wpList_of_whole _ _ _ _ _ _ _ _ _ _ 31 (.tmp 14) rfl O 0 bx rfl y.cells _ rfl _ Tryz.underlying31 rfl (sizeLt _ YW.out) rfl ?_))
    refine (CV.out _ (gb_drewN _ nq)).mono ?_
    rintro e w4 ⟨rfl, H2⟩
    replace H := Lib.hid H2
    clear H2 CV O q0 q1
    obtain ⟨E, hE⟩ : ∃ z, (c1.give l now).2 = z := ⟨_, rfl⟩
    obtain ⟨c2, hc2⟩ : ∃ z, (c1.give l now).1 = z := ⟨_, rfl⟩
    rw [hE, hc2] at HNX
    rw [hc2] at H
    rw [hE]
    clear hE hc2
    by_cases hE0 : E = 0
    · have hn := HNX.out.2.2 hE0
      have HNN := Lib.hid hn
      subst hE0
      clear hn
      go_wp2_with fail
      exact ⟨⟨k + 1, c2, _, by go_num, H.out.rows0.only (by simp), HNN.out⟩, by simp [intOf]; omega⟩
    have d6 : (E != 0) = true := by simpa using hE0
    have hw2 := HNX.out.2.1 hE0
    have hlo := HNX.out.1
    have hrg := HRG.out
    rw [Int.max_eq_left (by omega)] at hlo
    have ews := IntWalk.i64_in (GH - FH) (by omega)
    have ewt := IntWalk.i64_in (2 * (GH - FH)) (by omega)
    have d5 : decide ((k : Int) + 1 < 2 * (GH - FH)) = true := decide_eq_true (by omega)
    clear hE0 hlo hrg
    go_wp2_with fail
    refine (CA.out _ H.out.g).mono ?_
    rintro e w ⟨rfl, g⟩
    replace H := Lib.hid (H.out.grown g)
    clear g
    have CW3 := Lib.hid (kWant H.out)
    rw [hw2] at CW3
    clear hw2
    go_wp2_with fail
    refine CW3.out.mono ?_
    rintro e w6 ⟨rfl, g⟩
    replace H := Lib.hid (H.out.grown g)
    clear g
    go_wp2_with fail
    go_ret
    exact ⟨rfl, H.out.g⟩

end Go.Proofs.YtdhchehagfmjcaaGreatDoor
