/- Walk: nunciolaw09.TallyChecks. -/
import Derived.Test.YtfnginmoiecgnaaDoorCk
import Derived.Test.YtfnginmoiecgnaaDoorTaS
namespace Go.Proofs.YtfnginmoiecgnaaDoor
open Go.RowKit
open Go.Maps (Keyed)
set_option maxRecDepth 100000

theorem rep_grown {B : Nat} {w w' : World} {c : CommitD} {cs : List Value} (h : c.rep B w cs) (g : w.grownBy w' none) (hB : B ≤ w'.heap.size) : c.rep w'.heap.size w' cs := by
  obtain ⟨sl, h1, h2⟩ := h
  exact ⟨sl, (h1.grown g).mono hB, h2⟩

set_option maxHeartbeats 8000000 in
theorem TallyChecks_any (sv : Value) (ds : List ValD) (chain : ByteArray) (c : CommitD) (cs : List Value) (w : World) (hr : RdS w.heap.size w sv ds.length 2 (setCells ds)) (hch : chain.size ≤ 140737488351232) (hc : c.wf) (hrep : c.rep w.heap.size w cs)
    (hR : RowAt w 0 0 (wCells rootsL)) :
    Calls Tryd.prog 5 #[sv, .string chain, .agg cs.toArray] w fun e w' => e = .returned (.bool true) ∧ Below w.heap.size w w' := by
  have HRD := Lib.hid hr; have HC := Lib.hid hc; have HCh := Lib.hid hch; have HRep := Lib.hid hrep; have HR := Lib.hid hR
  have hcl := Lib.hid (show cs.length = 35 from by obtain ⟨sl, _, rfl⟩ := hrep; exact commitV_len _ _ _ _ hc.block)
  have h34 : ∃ ao cc, cs[34]? = some (.slice ao c.seals.length cc) := by
    obtain ⟨sl, hsl, rfl⟩ := hrep
    obtain ⟨ao, cc, rfl⟩ := hsl.shape
    exact ⟨ao, cc, commitV_get _ _ _ _ hc.block⟩
  obtain ⟨ao, cc, h34⟩ := h34
  have H34 := Lib.hid h34
  obtain ⟨va, vc, rfl⟩ := right_nil hr
  have hlen := hr.le
  have hlen2 : c.seals.length ≤ maxLen := by obtain ⟨sl, hsl, _⟩ := hrep; exact hsl.le
  unfold maxLen at hlen hlen2
  have HM := Lib.hid hlen; have HM2 := Lib.hid hlen2
  clear hr hch hc hrep hR h34 hlen hlen2
  go_enter Tryd.func5, Tryd.ntmps5
  go_wp2_with (first | (refine wpList_box_as rfl 54 _ rfl cs rfl ?_))
  intro w1 b1 g1 s1
  obtain ⟨b, hb⟩ : ∃ b, w.heap.size = b := ⟨_, rfl⟩
  have HB := Lib.hid hb
  rw [hb] at b1 s1 ⊢
  have B1 := Lib.hid b1; have G1 := Lib.hid g1; have S1 := Lib.hid s1
  clear b1 g1 s1 hb
  have c34 := B1.out.row 34 _ H34.out
  rw [Nat.zero_add] at c34
  obtain ⟨m, hm⟩ : ∃ m, c.seals.length = m := ⟨_, rfl⟩
  have HMm := Lib.hid hm
  have hm63 := HM2.out; have hl63 := HM.out
  rw [hm] at c34 hm63
  clear hm
  cases h1 : decide ((30 : Int) < (ds.length : Int)) with
  | true =>
    go_wp2_with fail
    refine (alive9_ok w1 (HR.out.grown G1.out (by simp))).mono ?_
    rintro e w2 ⟨rfl, g2⟩
    have G2 := Lib.hid (Lib.grownBy_trans G1.out g2)
    clear g2
    go_wp2_with fail
    go_ret
    exact ⟨rfl, below_g G2.out⟩
  | false =>
    cases h2 : decide ((30 : Int) < (m : Int)) with
    | true =>
      go_wp2_with fail
      refine (alive9_ok w1 (HR.out.grown G1.out (by simp))).mono ?_
      rintro e w2 ⟨rfl, g2⟩
      have G2 := Lib.hid (Lib.grownBy_trans G1.out g2)
      clear g2
      go_wp2_with fail
      go_ret
      exact ⟨rfl, below_g G2.out⟩
    | false =>
      have hn := Lib.hid (show c.seals.length ≤ 30 by rw [HMm.out]; simp at h2; omega)
      have CS := Lib.hid (fun W (g : w.grownBy W none) => Shared_ok (.slice va ds.length vc) ds chain c cs W (HRD.out.grown g) (Nat.le_trans HCh.out (by decide)) HC.out (rep_grown HRep.out g g.size) hn.out (HR.out.grown g (by simp)) g.size)
      have CR := Lib.hid (fun W (g : w.grownBy W none) => RShared_ok (.slice va ds.length vc) ds chain c cs W (HRD.out.grown g) HCh.out HC.out (rep_grown HRep.out g g.size) hn.out g.size)
      have CC := Lib.hid (fun W (g : w.grownBy W none) => Check_ok (.slice va ds.length vc) ds chain c cs W (HRD.out.grown g) (Nat.le_trans HCh.out (by decide)) HC.out (rep_grown HRep.out g g.size) hn.out (HR.out.grown g (by simp)) g.size)
      have CD := Lib.hid (fun W (g : w.grownBy W none) => RCheck_ok (.slice va ds.length vc) ds chain c cs W (HRD.out.grown g) HCh.out HC.out (rep_grown HRep.out g g.size) hn.out g.size)
      obtain ⟨x1, hx1⟩ : ∃ x, (sharedL ds chain c).1 = x := ⟨_, rfl⟩
      obtain ⟨x2, hx2⟩ : ∃ x, (sharedL ds chain c).2 = x := ⟨_, rfl⟩
      obtain ⟨x3, hx3⟩ : ∃ x, checkL ds chain c = x := ⟨_, rfl⟩
      rw [hx1, hx2] at CS CR
      rw [hx3] at CC CD
      clear hx1 hx2 hx3
      go_wp2_with (first | (refine wpList_load_part rfl 54 _ rfl b 0 rfl cs _ B1.out.row Tryd.underlying54 rfl (by rw [hcl.out]; kernel_rfl) ?_))
      refine (CS.out w1 G1.out).mono ?_
      rintro e w2 ⟨rfl, g2⟩
      have B2 := Lib.hid (B1.out.grown g2 (by simp)); have G2 := Lib.hid (Lib.grownBy_trans G1.out g2)
      clear g2 B1 G1 c34 CS h1 h2 hm63 hl63
      go_wp2_with (first | (refine wpList_load_part rfl 54 _ rfl b 0 rfl cs _ B2.out.row Tryd.underlying54 rfl (by rw [hcl.out]; kernel_rfl) ?_))
      refine (CR.out w2 G2.out).mono ?_
      rintro e w3 ⟨rfl, g3⟩
      have B3 := Lib.hid (B2.out.grown g3 (by simp)); have G3 := Lib.hid (Lib.grownBy_trans G2.out g3)
      clear g3 B2 G2 CR
      go_upto_region 5 with (fail)
      have k0 := Lib.hid (dr_grown w3 1)
      have KF := Lib.hid (show ∀ W, w3.grownBy W none → RowAt W b 0 cs from fun W g => (B3.out.grown g (by simp)).row)
      go_cut [6] from 35 (fun s6 w' => s6 = .bool true ∧ w3.grownBy w' none)
      case first =>
        refine wp_region_held_drew (S := fun W => RowAt W b 0 cs) (by kernel_rfl) (KF.out _ k0.out) (fun hH => ?_)
        refine wpAnyH_ready (rs := [0]) (by kernel_rfl) (by simp) ?_
        refine AllReadyH.cons rfl (fun K hK => ?_) AllReadyH.nil
        refine step_wantedG (by rfl) (wp_call 11 _ _ (by rfl) (enters Tryd.func11 (by kernel_rfl) rfl) (by rfl) (alive9_ok _ (HR.out.grown (Lib.grownBy_trans G3.out k0.out) (by simp))) ?_)
        rintro e u1 ⟨rfl, g1⟩
        refine ⟨_, rfl, ?_⟩
        have k1 := Lib.hid (Lib.grownBy_trans k0.out g1)
        clear g1
        simp only [Act.put, List.getElem_toArray, List.getElem_cons_zero, List.setIfInBounds_toArray, List.set_cons_zero, List.set_cons_succ]
        refine hK.out _ _ (KF.out _ k1.out) (fun hH => ?_)
        clear hK K
        refine wpAnyH_take (i := 1) (v := (.bool true)) rfl (by kernel_rfl) (by kernel_rfl) (by kernel_rfl) (fun _ _ _ h => h) (Or.inl ⟨by rfl, fun W hS => by go_simp⟩) hH ?_
        simp only [Act.put, List.getElem_toArray, List.getElem_cons_succ, List.getElem_cons_zero, List.setIfInBounds_toArray, List.set_cons_zero, List.set_cons_succ]
        refine wpAnyH_take (i := 2) (v := (.slice va ds.length vc)) rfl (by kernel_rfl) (by kernel_rfl) (by kernel_rfl) (fun _ _ _ h => h) (Or.inl ⟨by rfl, fun W hS => by go_simp⟩) hH ?_
        simp only [Act.put, List.getElem_toArray, List.getElem_cons_succ, List.getElem_cons_zero, List.setIfInBounds_toArray, List.set_cons_zero, List.set_cons_succ]
        refine wpAnyH_take (i := 3) (v := (.string chain)) rfl (by kernel_rfl) (by kernel_rfl) (by kernel_rfl) (fun _ _ _ h => h) (Or.inl ⟨by rfl, fun W hS => by go_simp⟩) hH ?_
        simp only [Act.put, List.getElem_toArray, List.getElem_cons_succ, List.getElem_cons_zero, List.setIfInBounds_toArray, List.set_cons_zero, List.set_cons_succ]
        refine wpAnyH_take (i := 4) (v := (.agg cs.toArray)) rfl (by kernel_rfl) (by kernel_rfl) (by kernel_rfl) (fun _ _ _ h => h) (yieldsIf_load_mid (by rfl) 54 _ rfl b 0 rfl cs _ (fun W h => h) Tryd.underlying54 rfl (by rw [hcl.out]; kernel_rfl)) hH ?_
        simp only [Act.put, List.getElem_toArray, List.getElem_cons_succ, List.getElem_cons_zero, List.setIfInBounds_toArray, List.set_cons_zero, List.set_cons_succ]
        refine wpAnyH_take (i := 6) (v := (.slice va ds.length vc)) rfl (by kernel_rfl) (by kernel_rfl) (by kernel_rfl) (fun _ _ _ h => h) (Or.inl ⟨by rfl, fun W hS => by go_simp⟩) hH ?_
        simp only [Act.put, List.getElem_toArray, List.getElem_cons_succ, List.getElem_cons_zero, List.setIfInBounds_toArray, List.set_cons_zero, List.set_cons_succ]
        refine wpAnyH_take (i := 7) (v := (.string chain)) rfl (by kernel_rfl) (by kernel_rfl) (by kernel_rfl) (fun _ _ _ h => h) (Or.inl ⟨by rfl, fun W hS => by go_simp⟩) hH ?_
        simp only [Act.put, List.getElem_toArray, List.getElem_cons_succ, List.getElem_cons_zero, List.setIfInBounds_toArray, List.set_cons_zero, List.set_cons_succ]
        refine wpAnyH_take (i := 8) (v := (.agg cs.toArray)) rfl (by kernel_rfl) (by kernel_rfl) (by kernel_rfl) (fun _ _ _ h => h) (yieldsIf_load_mid (by rfl) 54 _ rfl b 0 rfl cs _ (fun W h => h) Tryd.underlying54 rfl (by rw [hcl.out]; kernel_rfl)) hH ?_
        simp only [Act.put, List.getElem_toArray, List.getElem_cons_succ, List.getElem_cons_zero, List.setIfInBounds_toArray, List.set_cons_zero, List.set_cons_succ]
        refine wpAnyH_ready (rs := [5]) (by kernel_rfl) (by simp) ?_
        refine AllReadyH.cons rfl (fun K hK => ?_) AllReadyH.nil
        refine step_wantedG (by rfl) (wp_call 27 _ _ (by rfl) (enters Tryd.func27 (by kernel_rfl) rfl) (by rfl) (CC.out _ (Lib.grownBy_trans G3.out k1.out)) ?_)
        rintro e u2 ⟨rfl, g2⟩
        refine ⟨_, rfl, ?_⟩
        have k2 := Lib.hid (Lib.grownBy_trans k1.out g2)
        clear g2
        simp only [Act.put, List.getElem_toArray, List.getElem_cons_succ, List.getElem_cons_zero, List.setIfInBounds_toArray, List.set_cons_zero, List.set_cons_succ]
        refine hK.out _ _ (KF.out _ k2.out) (fun hH => ?_)
        clear hK K
        refine wpAnyH_ready (rs := [9]) (by kernel_rfl) (by simp) ?_
        refine AllReadyH.cons rfl (fun K hK => ?_) AllReadyH.nil
        refine step_wantedG (by rfl) (wp_call 28 _ _ (by rfl) (enters Tryd.func28 (by kernel_rfl) rfl) (by rfl) (CD.out _ (Lib.grownBy_trans G3.out k2.out)) ?_)
        rintro e u3 ⟨rfl, g3⟩
        refine ⟨_, rfl, ?_⟩
        have k3 := Lib.hid (Lib.grownBy_trans k2.out g3)
        clear g3
        simp only [Act.put, List.getElem_toArray, List.getElem_cons_succ, List.getElem_cons_zero, List.setIfInBounds_toArray, List.set_cons_zero, List.set_cons_succ]
        refine hK.out _ _ (KF.out _ k3.out) (fun hH => ?_)
        clear hK K
        refine wpAnyH_take (i := 10) (v := (.bool true)) rfl (by kernel_rfl) (by kernel_rfl) (by kernel_rfl) (fun _ _ _ h => h) (Or.inl ⟨by rfl, fun W hS => by go_simp⟩) hH ?_
        simp only [Act.put, List.getElem_toArray, List.getElem_cons_succ, List.getElem_cons_zero, List.setIfInBounds_toArray, List.set_cons_zero, List.set_cons_succ]
        refine wpAnyH_take (i := 11) (v := (.bool true)) rfl (by kernel_rfl) (by kernel_rfl) (by kernel_rfl) (fun _ _ _ h => h) (Or.inl ⟨by rfl, fun W hS => by go_simp⟩) hH ?_
        simp only [Act.put, List.getElem_toArray, List.getElem_cons_succ, List.getElem_cons_zero, List.setIfInBounds_toArray, List.set_cons_zero, List.set_cons_succ]
        refine wpAnyH_take (i := 12) (v := (.bool true)) rfl (by kernel_rfl) (by kernel_rfl) (by kernel_rfl) (fun _ _ _ h => h) (Or.inl ⟨by rfl, fun W hS => by go_simp⟩) hH ?_
        simp only [Act.put, List.getElem_toArray, List.getElem_cons_succ, List.getElem_cons_zero, List.setIfInBounds_toArray, List.set_cons_zero, List.set_cons_succ]
        refine wpAnyH_take (i := 13) (v := (.int .i64 x1)) rfl (by kernel_rfl) (by kernel_rfl) (by kernel_rfl) (fun _ _ _ h => h) (Or.inl ⟨by rfl, fun W hS => by go_simp⟩) hH ?_
        simp only [Act.put, List.getElem_toArray, List.getElem_cons_succ, List.getElem_cons_zero, List.setIfInBounds_toArray, List.set_cons_zero, List.set_cons_succ]
        refine wpAnyH_take (i := 14) (v := (.int .i64 x1)) rfl (by kernel_rfl) (by kernel_rfl) (by kernel_rfl) (fun _ _ _ h => h) (Or.inl ⟨by rfl, fun W hS => by go_simp⟩) hH ?_
        simp only [Act.put, List.getElem_toArray, List.getElem_cons_succ, List.getElem_cons_zero, List.setIfInBounds_toArray, List.set_cons_zero, List.set_cons_succ]
        refine wpAnyH_take (i := 15) (v := (.bool true)) rfl (by kernel_rfl) (by kernel_rfl) (by kernel_rfl) (fun _ _ _ h => h) (Or.inl ⟨by rfl, fun W hS => by go_simp⟩) hH ?_
        simp only [Act.put, List.getElem_toArray, List.getElem_cons_succ, List.getElem_cons_zero, List.setIfInBounds_toArray, List.set_cons_zero, List.set_cons_succ]
        refine wpAnyH_take (i := 16) (v := (.bool true)) rfl (by kernel_rfl) (by kernel_rfl) (by kernel_rfl) (fun _ _ _ h => h) (Or.inl ⟨by rfl, fun W hS => by go_simp⟩) hH ?_
        simp only [Act.put, List.getElem_toArray, List.getElem_cons_succ, List.getElem_cons_zero, List.setIfInBounds_toArray, List.set_cons_zero, List.set_cons_succ]
        refine wpAnyH_take (i := 17) (v := (.bool true)) rfl (by kernel_rfl) (by kernel_rfl) (by kernel_rfl) (fun _ _ _ h => h) (Or.inl ⟨by rfl, fun W hS => by go_simp⟩) hH ?_
        simp only [Act.put, List.getElem_toArray, List.getElem_cons_succ, List.getElem_cons_zero, List.setIfInBounds_toArray, List.set_cons_zero, List.set_cons_succ]
        refine wpAnyH_take (i := 18) (v := (.int .i64 x2)) rfl (by kernel_rfl) (by kernel_rfl) (by kernel_rfl) (fun _ _ _ h => h) (Or.inl ⟨by rfl, fun W hS => by go_simp⟩) hH ?_
        simp only [Act.put, List.getElem_toArray, List.getElem_cons_succ, List.getElem_cons_zero, List.setIfInBounds_toArray, List.set_cons_zero, List.set_cons_succ]
        refine wpAnyH_take (i := 19) (v := (.int .i64 x2)) rfl (by kernel_rfl) (by kernel_rfl) (by kernel_rfl) (fun _ _ _ h => h) (Or.inl ⟨by rfl, fun W hS => by go_simp⟩) hH ?_
        simp only [Act.put, List.getElem_toArray, List.getElem_cons_succ, List.getElem_cons_zero, List.setIfInBounds_toArray, List.set_cons_zero, List.set_cons_succ]
        refine wpAnyH_take (i := 20) (v := (.bool true)) rfl (by kernel_rfl) (by kernel_rfl) (by kernel_rfl) (fun _ _ _ h => h) (Or.inl ⟨by rfl, fun W hS => by go_simp⟩) hH ?_
        simp only [Act.put, List.getElem_toArray, List.getElem_cons_succ, List.getElem_cons_zero, List.setIfInBounds_toArray, List.set_cons_zero, List.set_cons_succ]
        refine wpAnyH_take (i := 21) (v := (.bool true)) rfl (by kernel_rfl) (by kernel_rfl) (by kernel_rfl) (fun _ _ _ h => h) (Or.inl ⟨by rfl, fun W hS => by go_simp⟩) hH ?_
        simp only [Act.put, List.getElem_toArray, List.getElem_cons_succ, List.getElem_cons_zero, List.setIfInBounds_toArray, List.set_cons_zero, List.set_cons_succ]
        refine wpAnyH_take (i := 22) (v := (.bool true)) rfl (by kernel_rfl) (by kernel_rfl) (by kernel_rfl) (fun _ _ _ h => h) (Or.inl ⟨by rfl, fun W hS => by go_simp⟩) hH ?_
        simp only [Act.put, List.getElem_toArray, List.getElem_cons_succ, List.getElem_cons_zero, List.setIfInBounds_toArray, List.set_cons_zero, List.set_cons_succ]
        refine wpAnyH_done (by kernel_rfl) ?_ _
        go_wp2
        go_meet
        case rel => exact ⟨rfl, k3.out⟩
      obtain ⟨hu, g9⟩ := hcut
      subst hu
      have G9 := Lib.hid (Lib.grownBy_trans G3.out g9)
      clear g9
      go_wp2_with fail
      go_ret
      exact ⟨rfl, below_g G9.out⟩

end Go.Proofs.YtfnginmoiecgnaaDoor
