/- Walk: nunciolaw13.SignerRises. -/
import Derived.Test.YtcbkehnlgpcelaaGreatDoorSg10
namespace Go.Proofs.YtcbkehnlgpcelaaGreatDoor
open Go.RowKit
set_option maxRecDepth 100000

theorem ref_grown (w : World) : w.grownBy w none := World.grownBy.refl _ _
set_option maxHeartbeats 8000000 in
theorem SignerRises_any (x : Nat) (_hx : x < 18446744073709551616) (v : Value) (s : List AskD) (w0 : World) (hs : RdS w0.heap.size w0 v s.length 39 (asksCells s)) (hw : ∀ a ∈ s, a.wf) (hR : RowAt w0 3 0 (wCells rootsL)) :
    Calls Tryz.prog 5 #[.int .u64 (x : Int), v] w0 fun e w' => e = .returned (.bool true) ∧ w0.grownBy w' none := by
  have HSA := Lib.hid (fun k hk => asks_at hs hw k hk)
  have HSW := Lib.hid hw; have HR := Lib.hid hR
  have CA := Lib.hid (fun w (g : w0.grownBy w none) => alive13_ok w (hR.grown g (by simp)))
  obtain ⟨ao, cp, rfl, hle, hcm, _, _⟩ := hs
  unfold maxLen at hcm
  have hsl : (s.length : Int) ≤ 9223372036854775807 := by omega
  clear hw hR
  cases hk : keyOk x with
  | false =>
    go_enter Tryz.func5, Tryz.ntmps5
    go_wp2_with fail
    refine (tpNew_ok w0).mono ?_
    rintro e w1 ⟨bt, rfl, ht, g1, hbt⟩
    have G1 := Lib.hid g1
    clear ht g1 hbt
    go_wp2_with fail
    refine (show Calls Tryz.prog 9 #[.pointer (some ⟨bt, 0, none⟩), .int .u64 (x : Int), .string ⟨#[97]⟩] w1 _ from sgOpen_key x hk _ chA w1).mono ?_
    rintro e w2 ⟨rfl, rfl⟩
    go_wp2_with fail
    refine (CA.out w2 (G1.out)).mono ?_
    rintro e w3 ⟨rfl, g⟩
    have G3 := Lib.hid g
    clear g
    go_wp2_with fail
    go_ret
    exact ⟨rfl, Lib.grownBy_trans (G1.out) G3.out⟩
  | true =>
    go_enter Tryz.func5, Tryz.ntmps5
    go_wp2_with fail
    refine (tpNew_ok w0).mono ?_
    rintro e w1 ⟨bt, rfl, ht, g1, hbt⟩
    have HT := Lib.hid ht; have G1 := Lib.hid g1; have HBT := Lib.hid hbt
    clear ht g1 hbt
    go_wp2_with fail
    refine (show Calls Tryz.prog 9 #[.pointer (some ⟨bt, 0, none⟩), .int .u64 (x : Int), .string ⟨#[97]⟩] w1 _ from sgOpen_new HT.out x hk chA (by decide)).mono ?_
    rintro e w2 ⟨sg, l, sv1, rfl, hz, t2, f2⟩
    have hzs := (G1.out).size
    have L0 := Lib.hid (live_new (w0 := w0) (((Tch.of_grown (F := fun k => k = bt) (G1.out)).trans t2 (fun _ h _ => h)).grown (fun k hk => hk ▸ HBT.out)) hz f2 HBT.out hzs)
    obtain ⟨z0, hz0⟩ : ∃ z : SgP, (⟨sg, .new bt l sv1, x, pw 37 x, chA, .slice none 0 0, [], false⟩ : SgP) = z := ⟨_, rfl⟩
    rw [hz0] at L0
    clear hz t2 f2 hz0 hzs
    go_wp2_with fail
    go_loopw [7] (fun i wr => ∃ (k n : Nat) (z : SgP), k ≤ 20 ∧ k ≤ s.length ∧ n + k = 40 ∧ i = .int .i64 (k : Int) ∧ Live w0 wr sg x chA z n) (fun i _ => 21 - (intOf i).toNat)
    case atStart => exact ⟨0, 40, z0, by omega, by omega, by omega, rfl, L0.out⟩
    case round =>
      clear L0
      obtain ⟨k, n, z, hk20, hkl, hnk, rfl, hL⟩ := hrel
      have L := Lib.hid hL
      clear hL
      by_cases h1 : k < s.length
      · by_cases h2 : k < 20
        · have d2 : decide ((k : Int) < 20) = true := decide_eq_true (by omega)
          obtain ⟨g, o, c2, e1, _, r1⟩ := HSA.out k h1
          obtain ⟨rfl, rfl⟩ : ao = some ⟨g, o, none⟩ ∧ cp = c2 := by injection e1 with h1 _ h2; exact ⟨h1, h2⟩
          have HA := Lib.hid (HSW.out _ (List.getElem_mem h1))
          obtain ⟨a, ha⟩ : ∃ a, s[k] = a := ⟨_, rfl⟩
          rw [ha] at r1 HA
          have RH : ∀ {W : World}, w0.grownBy W none → RowAt W g (o + k * 39 + 1) [.int .i64 a.h] := fun gg => RowAt.one ((r1.grown gg (by simp)) 1 _ rfl)
          have RR : ∀ {W : World}, w0.grownBy W none → RowAt W g (o + k * 39 + 2) [.int .i64 a.r] := fun gg => RowAt.one ((r1.grown gg (by simp)) 2 _ rfl)
          have RT : ∀ {W : World}, w0.grownBy W none → RowAt W g (o + k * 39 + 3) [.int .i64 a.t] := fun gg => RowAt.one ((r1.grown gg (by simp)) 3 _ rfl)
          have RB : ∀ {W : World}, w0.grownBy W none → RowAt W g (o + k * 39 + 4) (Lib.byteCells a.block) := fun gg => AskD.blockRow (r1.grown gg (by simp)) HA.out
          have RDS : ∀ {W : World}, w0.grownBy W none → RdA [(5, g, o + k * 39 + 1, [.int .i64 a.h]), (10, g, o + k * 39 + 2, [.int .i64 a.r]), (15, g, o + k * 39 + 3, [.int .i64 a.t]), (20, g, o + k * 39 + 4, Lib.byteCells a.block)] W := fun gg => RdA.cons (RH gg) (RdA.cons (RR gg) (RdA.cons (RT gg) (RdA.cons (RB gg) RdA.nil)))
          have hix : ¬ ((s.length : Int) ≤ (k : Int)) := by omega
          have ew := IntWalk.i64_in ((k : Int) + 1) (by omega)
          clear e1 ha
          go_upto_region 7 with fail
          have gd := dr1s wr
          have GD := Lib.hid gd
          clear gd
          obtain ⟨n, rfl⟩ : ∃ m, n = m + 1 := ⟨n - 1, by omega⟩
          refine wp_region_J (rdf [(5, g, (o + k * 39 + 1), [(.int .i64 a.h)]), (10, g, (o + k * 39 + 2), [(.int .i64 a.r)]), (15, g, (o + k * 39 + 3), [(.int .i64 a.t)]), (20, g, (o + k * 39 + 4), (Lib.byteCells a.block))]) [21] (by as_aux_lemma => kernel_rfl) (RdA.cons (RH (Lib.grownBy_trans L.out.grown GD.out)) (RdA.cons (RR (Lib.grownBy_trans L.out.grown GD.out)) (RdA.cons (RT (Lib.grownBy_trans L.out.grown GD.out)) (RdA.cons (RB (Lib.grownBy_trans L.out.grown GD.out)) RdA.nil)))) (fun hH => ?_)
          refine jp 0 ((.pointer (some ⟨sg, 0, none⟩))) (Still.all hH) ?_ (hk := by as_aux_lemma => kernel_rfl)
          simp only [Act.put, jq1, jq3, jq4, jq5, jq6]
          refine jp 1 ((.slice (some ⟨g, o, none⟩) s.length cp)) (Still.all hH) ?_ (hk := by as_aux_lemma => kernel_rfl)
          simp only [Act.put, jq1, jq2, jq3, jq4, jq5, jq6]
          refine jp 2 ((.int .i64 (k : Int))) (Still.all hH) ?_ (hk := by as_aux_lemma => kernel_rfl)
          simp only [Act.put, jq1, jq2, jq3, jq4, jq5, jq6]
          refine jp 3 ((.pointer (some ⟨g, o + k * 39, none⟩))) (Still.all hH) ?_ (hk := by as_aux_lemma => kernel_rfl)
          simp only [Act.put, jq1, jq2, jq3, jq4, jq5, jq6]
          refine jp 4 ((.pointer (some ⟨g, o + k * 39 + 1, none⟩))) (Still.all hH) ?_ (hk := by as_aux_lemma => kernel_rfl)
          simp only [Act.put, jq1, jq2, jq3, jq4, jq5, jq6]
          refine jr 0 5 ((.int .i64 a.h)) rfl rfl (yields_cell (by rfl) 3 _ rfl g (o + k * 39 + 1) rfl (.int .i64 a.h) _ (fun W h => h) Tryz.underlying3 rfl) (Still.all hH) ?_ (hk := by as_aux_lemma => kernel_rfl)
          simp only [Act.put, jq1, jq2, jq3, jq4, jq5, jq6]
          refine jp 6 ((.slice (some ⟨g, o, none⟩) s.length cp)) (Still.all hH) ?_ (hk := by as_aux_lemma => kernel_rfl)
          simp only [Act.put, jq1, jq2, jq3, jq4, jq5, jq6]
          refine jp 7 ((.int .i64 (k : Int))) (Still.all hH) ?_ (hk := by as_aux_lemma => kernel_rfl)
          simp only [Act.put, jq1, jq2, jq3, jq4, jq5, jq6]
          refine jp 8 ((.pointer (some ⟨g, o + k * 39, none⟩))) (Still.all hH) ?_ (hk := by as_aux_lemma => kernel_rfl)
          simp only [Act.put, jq1, jq2, jq3, jq4, jq5, jq6]
          refine jp 9 ((.pointer (some ⟨g, o + k * 39 + 2, none⟩))) (Still.all hH) ?_ (hk := by as_aux_lemma => kernel_rfl)
          simp only [Act.put, jq1, jq2, jq3, jq4, jq5, jq6]
          refine jr 1 10 ((.int .i64 a.r)) rfl rfl (yields_cell (by rfl) 3 _ rfl g (o + k * 39 + 2) rfl (.int .i64 a.r) _ (fun W h => h) Tryz.underlying3 rfl) (Still.all hH) ?_ (hk := by as_aux_lemma => kernel_rfl)
          simp only [Act.put, jq1, jq2, jq3, jq4, jq5, jq6]
          refine jp 11 ((.slice (some ⟨g, o, none⟩) s.length cp)) (Still.all hH) ?_ (hk := by as_aux_lemma => kernel_rfl)
          simp only [Act.put, jq1, jq2, jq3, jq4, jq5, jq6]
          refine jp 12 ((.int .i64 (k : Int))) (Still.all hH) ?_ (hk := by as_aux_lemma => kernel_rfl)
          simp only [Act.put, jq1, jq2, jq3, jq4, jq5, jq6]
          refine jp 13 ((.pointer (some ⟨g, o + k * 39, none⟩))) (Still.all hH) ?_ (hk := by as_aux_lemma => kernel_rfl)
          simp only [Act.put, jq1, jq2, jq3, jq4, jq5, jq6]
          refine jp 14 ((.pointer (some ⟨g, o + k * 39 + 3, none⟩))) (Still.all hH) ?_ (hk := by as_aux_lemma => kernel_rfl)
          simp only [Act.put, jq1, jq2, jq3, jq4, jq5, jq6]
          refine jr 2 15 ((.int .i64 a.t)) rfl rfl (yields_cell (by rfl) 24 _ rfl g (o + k * 39 + 3) rfl (.int .i64 a.t) _ (fun W h => h) Tryz.underlying24 rfl) (Still.all hH) ?_ (hk := by as_aux_lemma => kernel_rfl)
          simp only [Act.put, jq1, jq2, jq3, jq4, jq5, jq6]
          refine jp 16 ((.slice (some ⟨g, o, none⟩) s.length cp)) (Still.all hH) ?_ (hk := by as_aux_lemma => kernel_rfl)
          simp only [Act.put, jq1, jq2, jq3, jq4, jq5, jq6]
          refine jp 17 ((.int .i64 (k : Int))) (Still.all hH) ?_ (hk := by as_aux_lemma => kernel_rfl)
          simp only [Act.put, jq1, jq2, jq3, jq4, jq5, jq6]
          refine jp 18 ((.pointer (some ⟨g, o + k * 39, none⟩))) (Still.all hH) ?_ (hk := by as_aux_lemma => kernel_rfl)
          simp only [Act.put, jq1, jq2, jq3, jq4, jq5, jq6]
          refine jp 19 ((.pointer (some ⟨g, o + k * 39 + 4, none⟩))) (Still.all hH) ?_ (hk := by as_aux_lemma => kernel_rfl)
          simp only [Act.put, jq1, jq2, jq3, jq4, jq5, jq6]
          refine jr 3 20 ((.agg ((Lib.byteCells a.block)).toArray)) rfl rfl (yieldsIf_load_mid (by rfl) 26 _ rfl g (o + k * 39 + 4) rfl (Lib.byteCells a.block) _ (fun W h => h) Tryz.underlying26 rfl (sizeH _ (by rw [Lib.byteCells_length, HA.out.block]))) (Still.all hH) ?_ (hk := by as_aux_lemma => kernel_rfl)
          simp only [Act.put, jq1, jq2, jq3, jq4, jq5, jq6]
          refine wpAnyJ_ready (rs := [21]) (by as_aux_lemma => kernel_rfl) (by simp) ?_
          refine AllJ.keep rfl (by rfl) (by rfl) (fun K hK => ?_) (AllJ.nil)
          refine wp_call 11 _ _ (by rfl) (enters Tryz.func11 (by kernel_rfl) rfl) (by rfl) (live_sign (L.out.up GD.out) a.h a.r a.t a.block HA.out.h HA.out.r HA.out.t HA.out.block HR.out) ?_
          rintro e u ⟨z2, hL2, hres⟩
          obtain ⟨rv, rfl⟩ : ∃ v, e = .returned v := by rcases hres with ⟨p, _, he, _⟩ | ⟨_, he, _⟩ <;> exact ⟨_, he⟩
          refine ⟨rv, rfl, ?_⟩
          have L2 := Lib.hid hL2
          clear hL2 hres
          simp only [Act.put, jq1, jq2, jq3, jq4, jq5, jq6]
          refine hK.out _ _ (RDS L2.out.grown) ?_
          replace hH := RDS L2.out.grown
          clear hK K
          refine wpAnyJ_done (by as_aux_lemma => kernel_rfl) ?_ _
          clear hH
          go_wp2_with fail
          exact ⟨⟨k + 1, n, z2, by omega, by omega, by omega, by go_num, L2.out⟩, by simp [intOf]; omega⟩
        · have d2 : decide ((k : Int) < 20) = false := decide_eq_false (by omega)
          clear h2
          have HQ := Lib.hid (show z.key = pw 37 x by rw [L.out.rep.hkey, L.out.sec])
          obtain ⟨q, hq⟩ : ∃ q, pw 37 x = q := ⟨_, rfl⟩
          have HGD := Lib.hid L.out.good
          unfold Good at HGD
          rw [hq] at HQ HGD
          go_wp2_with fail
          refine (show Calls Tryz.prog 12 #[.pointer (some ⟨sg, 0, none⟩)] wr _ from L.out.hs ▸ sVotes_ok L.out.rep (by have := L.out.len; omega)).mono ?_
          rintro e w5 ⟨v9, rfl, h9, g9, _⟩
          have LV := Lib.hid (L.out.up g9)
          have HV := Lib.hid (fun i hi => votes_at h9 L.out.rep.wf i hi)
          have HM := Lib.hid (show z.vs.length ≤ 1000 by have := L.out.len; omega)
          obtain ⟨a9, c9, hv9, _⟩ := h9.shape
          subst hv9
          obtain ⟨m, hm⟩ : ∃ m, z.vs.length = m := ⟨_, rfl⟩
          rw [hm] at HM
          have HMM := Lib.hid hm
          clear h9 g9 hq L
          rw [hm]
          go_wp2_with fail
          go_loopw [9] (fun i wr => ∃ k : Nat, k ≤ m ∧ i = .int .i64 (k : Int) ∧ w5.grownBy wr none) (fun i _ => m - (intOf i).toNat)
          case atStart => exact ⟨0, Nat.zero_le _, rfl, ref_grown _⟩
          case round =>
            obtain ⟨k, hkm, rfl, hg⟩ := hrel
            have HG := Lib.hid hg
            clear hg hm
            by_cases hlt : k < m
            · obtain ⟨g2, o2, c2, e2, _, _, r2⟩ := HV.out k (by rw [HMM.out]; exact hlt)
              obtain ⟨rfl, rfl⟩ : a9 = some ⟨g2, o2, none⟩ ∧ c9 = c2 := by injection e2 with h1 _ h2; exact ⟨h1, h2⟩
              have HU := Lib.hid (HGD.out.1 _ (List.getElem_mem (l := z.vs) (n := k) (by rw [HMM.out]; exact hlt)))
              have hix : ¬ ((m : Int) ≤ (k : Int)) := by omega
              have ew := IntWalk.i64_in ((k : Int) + 1) (by have := HM.out; omega)
              cases k with
              | zero =>
                obtain ⟨uv, hu⟩ : ∃ u, z.vs[0]'(by rw [HMM.out]; exact hlt) = u := ⟨_, rfl⟩
                rw [hu] at r2 HU
                have RU := Lib.hid (r2.grown HG.out (by simp))
                have RK : ∀ {W : World}, wr.grownBy W none → RowAt W g2 (o2 + 0 * 39 + 36) [.int .u64 (q : Int)] := fun gg => RowAt.one (by have := (VoteD.At.of_row HU.out.1 (RU.out.grown gg (by simp))).key; rw [HU.out.2.2.1] at this; exact this)
                have RC : ∀ {W : World}, wr.grownBy W none → RowAt W g2 (o2 + 0 * 39) [.string ⟨#[97]⟩] := fun gg => RowAt.one (by have := (VoteD.At.of_row HU.out.1 (RU.out.grown gg (by simp))).chain; rw [HU.out.2.2.2] at this; exact this)
                have CSG := Lib.hid (fun W => show Calls Tryz.prog 17 #[.agg uv.cells.toArray] W (fun e w' => e = .returned (.bool true) ∧ W.grownBy w' none) from (by have := signed13_ok uv W HU.out.1; rwa [HU.out.2.1] at this))
                clear e2 r2 hu hkm
                have hix0 : ¬ ((m : Int) ≤ 0) := by omega
                go_upto_region 12 with fail
                have gd := dr1s wr
                have GD := Lib.hid gd
                clear gd
                refine wp_region_J (rdf [(4, g2, (o2 + 0 * 39 + 36), [(.int .u64 (q : Int))]), (13, g2, (o2 + 0 * 39), [(.string ⟨#[97]⟩)]), (20, g2, (o2 + 0 * 39), uv.cells)]) [6, 21] (by as_aux_lemma => kernel_rfl) (RdA.cons (RK GD.out) (RdA.cons (RC GD.out) (RdA.cons (RU.out.grown GD.out (by simp)) RdA.nil))) (fun hH => ?_)
                refine jp 0 ((.slice (some ⟨g2, o2, none⟩) m c9)) (Still.all hH) ?_ (hk := by as_aux_lemma => kernel_rfl)
                simp only [Act.put, jq1, jq3, jq4, jq5, jq6]
                refine jp 1 ((.int .i64 0)) (Still.all hH) ?_ (hk := by as_aux_lemma => kernel_rfl)
                simp only [Act.put, jq1, jq2, jq3, jq4, jq5, jq6]
                refine jp 2 ((.pointer (some ⟨g2, o2 + 0 * 39, none⟩))) (Still.all hH) ?_ (hk := by as_aux_lemma => kernel_rfl)
                simp only [Act.put, jq1, jq2, jq3, jq4, jq5, jq6]
                refine jp 3 ((.pointer (some ⟨g2, o2 + 0 * 39 + 36, none⟩))) (Still.all hH) ?_ (hk := by as_aux_lemma => kernel_rfl)
                simp only [Act.put, jq1, jq2, jq3, jq4, jq5, jq6]
                refine jr 0 4 ((.int .u64 (q : Int))) rfl rfl (yields_cell (by rfl) 22 _ rfl g2 (o2 + 0 * 39 + 36) rfl (.int .u64 (q : Int)) _ (fun W h => h) Tryz.underlying22 rfl) (Still.all hH) ?_ (hk := by as_aux_lemma => kernel_rfl)
                simp only [Act.put, jq1, jq2, jq3, jq4, jq5, jq6]
                refine jp 5 ((.pointer (some ⟨sg, 0, none⟩))) (Still.all hH) ?_ (hk := by as_aux_lemma => kernel_rfl)
                simp only [Act.put, jq1, jq2, jq3, jq4, jq5, jq6]
                refine wpAnyJ_ready (rs := [6]) (by as_aux_lemma => kernel_rfl) (by simp) ?_
                refine AllJ.keep rfl (by rfl) (by rfl) (fun K hK => ?_) (AllJ.nil)
                refine wp_call 16 _ _ (by rfl) (enters Tryz.func16 (by kernel_rfl) rfl) (by rfl) ((show Calls Tryz.prog 16 #[.pointer (some ⟨sg, 0, none⟩)] _ (fun e w' => e = .returned (.int .u64 (q : Int)) ∧ w' = _) from by have := skey_ok (LV.out.up (Lib.grownBy_trans HG.out GD.out)).rep; rw [LV.out.hs, HQ.out] at this; exact this)) ?_
                rintro e u ⟨rfl, rfl⟩
                refine ⟨_, rfl, ?_⟩
                simp only [Act.put, jq1, jq2, jq3, jq4, jq5, jq6]
                refine hK.out _ _ hH ?_
                clear hK K
                refine jp 7 ((.bool false)) (Still.all hH) ?_ (hk := by as_aux_lemma => kernel_rfl)
                simp only [Act.put, jq1, jq2, jq3, jq4, jq5, jq6]
                refine jp 8 ((.bool false)) (Still.all hH) ?_ (hk := by as_aux_lemma => kernel_rfl)
                simp only [Act.put, jq1, jq2, jq3, jq4, jq5, jq6]
                refine jp 9 ((.slice (some ⟨g2, o2, none⟩) m c9)) (Still.all hH) ?_ (hk := by as_aux_lemma => kernel_rfl)
                simp only [Act.put, jq1, jq2, jq3, jq4, jq5, jq6]
                refine jp 10 ((.int .i64 0)) (Still.all hH) ?_ (hk := by as_aux_lemma => kernel_rfl)
                simp only [Act.put, jq1, jq2, jq3, jq4, jq5, jq6]
                refine jp 11 ((.pointer (some ⟨g2, o2 + 0 * 39, none⟩))) (Still.all hH) ?_ (hk := by as_aux_lemma => kernel_rfl)
                simp only [Act.put, jq1, jq2, jq3, jq4, jq5, jq6]
                refine jp 12 ((.pointer (some ⟨g2, o2 + 0 * 39, none⟩))) (Still.all hH) ?_ (hk := by as_aux_lemma => kernel_rfl)
                simp only [Act.put, jq1, jq2, jq3, jq4, jq5, jq6]
                refine jr 1 13 ((.string ⟨#[97]⟩)) rfl rfl (yields_cell (by rfl) 9 _ rfl g2 (o2 + 0 * 39) rfl (.string ⟨#[97]⟩) _ (fun W h => h) Tryz.underlying9 rfl) (Still.all hH) ?_ (hk := by as_aux_lemma => kernel_rfl)
                simp only [Act.put, jq1, jq2, jq3, jq4, jq5, jq6]
                refine jp 14 ((.bool false)) (Still.all hH) ?_ (hk := by as_aux_lemma => kernel_rfl)
                simp only [Act.put, jq1, jq2, jq3, jq4, jq5, jq6]
                refine jp 15 ((.bool false)) (Still.all hH) ?_ (hk := by as_aux_lemma => kernel_rfl)
                simp only [Act.put, jq1, jq2, jq3, jq4, jq5, jq6]
                refine jp 16 ((.bool false)) (Still.all hH) ?_ (hk := by as_aux_lemma => kernel_rfl)
                simp only [Act.put, jq1, jq2, jq3, jq4, jq5, jq6]
                refine jp 17 ((.slice (some ⟨g2, o2, none⟩) m c9)) (Still.all hH) ?_ (hk := by as_aux_lemma => kernel_rfl)
                simp only [Act.put, jq1, jq2, jq3, jq4, jq5, jq6]
                refine jp 18 ((.int .i64 0)) (Still.all hH) ?_ (hk := by as_aux_lemma => kernel_rfl)
                simp only [Act.put, jq1, jq2, jq3, jq4, jq5, jq6]
                refine jp 19 ((.pointer (some ⟨g2, o2 + 0 * 39, none⟩))) (Still.all hH) ?_ (hk := by as_aux_lemma => kernel_rfl)
                simp only [Act.put, jq1, jq2, jq3, jq4, jq5, jq6]
                refine jr 2 20 ((.agg (uv.cells).toArray)) rfl rfl (yieldsIf_load_mid (by rfl) 40 _ rfl g2 (o2 + 0 * 39) rfl uv.cells _ (fun W h => h) Tryz.underlying40 rfl (uv.size HU.out.1)) (Still.all hH) ?_ (hk := by as_aux_lemma => kernel_rfl)
                simp only [Act.put, jq1, jq2, jq3, jq4, jq5, jq6]
                refine wpAnyJ_ready (rs := [21]) (by as_aux_lemma => kernel_rfl) (by simp) ?_
                refine AllJ.keep rfl (by rfl) (by rfl) (fun K hK => ?_) (AllJ.nil)
                refine wp_call 17 _ _ (by rfl) (enters Tryz.func17 (by kernel_rfl) rfl) (by rfl) (CSG.out _) ?_
                rintro e u ⟨rfl, g9⟩
                refine ⟨_, rfl, ?_⟩
                have GS := Lib.hid g9
                simp only [Act.put, jq1, jq2, jq3, jq4, jq5, jq6]
                refine hK.out _ _ (RdA.grown hH g9) ?_
                replace hH := RdA.grown hH g9
                clear hK K
                clear g9
                refine jp 22 ((.bool false)) (Still.all hH) ?_ (hk := by as_aux_lemma => kernel_rfl)
                simp only [Act.put, jq1, jq2, jq3, jq4, jq5, jq6]
                refine jp 23 ((.bool false)) (Still.all hH) ?_ (hk := by as_aux_lemma => kernel_rfl)
                simp only [Act.put, jq1, jq2, jq3, jq4, jq5, jq6]
                refine jp 24 ((.bool false)) (Still.all hH) ?_ (hk := by as_aux_lemma => kernel_rfl)
                simp only [Act.put, jq1, jq2, jq3, jq4, jq5, jq6]
                refine jp 25 ((.int .i64 0)) (Still.all hH) ?_ (hk := by as_aux_lemma => kernel_rfl)
                simp only [Act.put, jq1, jq2, jq3, jq4, jq5, jq6]
                refine jp 26 ((.bool false)) (Still.all hH) ?_ (hk := by as_aux_lemma => kernel_rfl)
                simp only [Act.put, jq1, jq2, jq3, jq4, jq5, jq6]
                refine jp 27 ((.bool false)) (Still.all hH) ?_ (hk := by as_aux_lemma => kernel_rfl)
                simp only [Act.put, jq1, jq2, jq3, jq4, jq5, jq6]
                refine jp 28 undef (Still.all hH) ?_ (hy := Or.inr ⟨by rfl, rfl⟩) (hk := by as_aux_lemma => kernel_rfl)
                simp only [Act.put, jq1, jq2, jq3, jq4, jq5, jq6]
                refine jp 29 undef (Still.all hH) ?_ (hy := Or.inr ⟨by rfl, rfl⟩) (hk := by as_aux_lemma => kernel_rfl)
                simp only [Act.put, jq1, jq2, jq3, jq4, jq5, jq6]
                refine jp 30 undef (Still.all hH) ?_ (hy := Or.inr ⟨by rfl, rfl⟩) (hk := by as_aux_lemma => kernel_rfl)
                simp only [Act.put, jq1, jq2, jq3, jq4, jq5, jq6]
                refine jp 31 undef (Still.all hH) ?_ (hy := Or.inr ⟨by rfl, rfl⟩) (hk := by as_aux_lemma => kernel_rfl)
                simp only [Act.put, jq1, jq2, jq3, jq4, jq5, jq6]
                refine jp 32 undef (Still.all hH) ?_ (hy := Or.inr ⟨by rfl, rfl⟩) (hk := by as_aux_lemma => kernel_rfl)
                simp only [Act.put, jq1, jq2, jq3, jq4, jq5, jq6]
                refine jp 33 undef (Still.all hH) ?_ (hy := Or.inr ⟨by rfl, rfl⟩) (hk := by as_aux_lemma => kernel_rfl)
                simp only [Act.put, jq1, jq2, jq3, jq4, jq5, jq6]
                refine jp 34 undef (Still.all hH) ?_ (hy := Or.inr ⟨by rfl, rfl⟩) (hk := by as_aux_lemma => kernel_rfl)
                simp only [Act.put, jq1, jq2, jq3, jq4, jq5, jq6]
                refine jp 35 undef (Still.all hH) ?_ (hy := Or.inr ⟨by rfl, rfl⟩) (hk := by as_aux_lemma => kernel_rfl)
                simp only [Act.put, jq1, jq2, jq3, jq4, jq5, jq6]
                refine jp 36 undef (Still.all hH) ?_ (hy := Or.inr ⟨by rfl, rfl⟩) (hk := by as_aux_lemma => kernel_rfl)
                simp only [Act.put, jq1, jq2, jq3, jq4, jq5, jq6]
                refine jp 37 undef (Still.all hH) ?_ (hy := Or.inr ⟨by rfl, rfl⟩) (hk := by as_aux_lemma => kernel_rfl)
                simp only [Act.put, jq1, jq2, jq3, jq4, jq5, jq6]
                refine jp 38 undef (Still.all hH) ?_ (hy := Or.inr ⟨by rfl, rfl⟩) (hk := by as_aux_lemma => kernel_rfl)
                simp only [Act.put, jq1, jq2, jq3, jq4, jq5, jq6]
                refine jp 39 ((.bool false)) (Still.all hH) ?_ (hk := by as_aux_lemma => kernel_rfl)
                simp only [Act.put, jq1, jq2, jq3, jq4, jq5, jq6]
                refine jp 40 ((.bool false)) (Still.all hH) ?_ (hk := by as_aux_lemma => kernel_rfl)
                simp only [Act.put, jq1, jq2, jq3, jq4, jq5, jq6]
                refine wpAnyJ_done (by as_aux_lemma => kernel_rfl) ?_ _
                clear hH
                go_wp2_with fail
                exact ⟨⟨1, by omega, by go_num, Lib.grownBy_trans HG.out (Lib.grownBy_trans GD.out GS.out)⟩, by simp [intOf]; omega⟩
              | succ k =>
                obtain ⟨uv, hu⟩ : ∃ u, z.vs[k + 1]'(by rw [HMM.out]; exact hlt) = u := ⟨_, rfl⟩
                obtain ⟨_, _, _, e3, _, _, r3⟩ := HV.out k (by rw [HMM.out]; omega)
                obtain ⟨e31, _, _⟩ := Value.slice.inj e3
                injection e31 with e31
                injection e31 with e32 e33 _
                subst e32 e33
                have HPA := HGD.out.2 k (by rw [HMM.out]; exact hlt)
                have hpw := (HGD.out.1 _ (List.getElem_mem (l := z.vs) (n := k) (by rw [HMM.out]; omega))).1
                obtain ⟨p, hp⟩ : ∃ p, z.vs[k]'(by rw [HMM.out]; omega) = p := ⟨_, rfl⟩
                rw [hu] at r2 HU HPA
                rw [hp] at r3 HPA hpw
                replace HPA := Lib.hid HPA
                have HP := Lib.hid hpw
                have RU := Lib.hid (r2.grown HG.out (by simp)); have RP := Lib.hid (r3.grown HG.out (by simp))
                have RK : ∀ {W : World}, wr.grownBy W none → RowAt W g2 (o2 + (k + 1) * 39 + 36) [.int .u64 (q : Int)] := fun gg => RowAt.one (by have := (VoteD.At.of_row HU.out.1 (RU.out.grown gg (by simp))).key; rw [HU.out.2.2.1] at this; exact this)
                have RC : ∀ {W : World}, wr.grownBy W none → RowAt W g2 (o2 + (k + 1) * 39) [.string ⟨#[97]⟩] := fun gg => RowAt.one (by have := (VoteD.At.of_row HU.out.1 (RU.out.grown gg (by simp))).chain; rw [HU.out.2.2.2] at this; exact this)
                have hpos : decide ((0 : Int) < (k : Int) + 1) = true := decide_eq_true (by omega)
                have hix2 : ¬ ((m : Int) ≤ (k : Int) + 1) := by omega
                have hix3 : ¬ ((m : Int) ≤ (k : Int)) := by omega
                have hix4 : ¬ (m ≤ k) := by omega
                have hng : ¬ ((k : Int) + 1 < 0) := by omega
                have ew3 := IntWalk.i64_in ((k : Int) + 1 + 1) (by have := HM.out; omega)
                have ew2 := IntWalk.i64_in ((k : Int)) (by have := HM.out; omega)
                have CSG := Lib.hid (fun W => show Calls Tryz.prog 17 #[.agg uv.cells.toArray] W (fun e w' => e = .returned (.bool true) ∧ W.grownBy w' none) from (by have := signed13_ok uv W HU.out.1; rwa [HU.out.2.1] at this))
                have CAP := Lib.hid (fun W => show Calls Tryz.prog 14 #[.agg p.cells.toArray, .agg uv.cells.toArray] W (fun e w' => e = .returned (.bool true) ∧ W.grownBy w' none) from (by have := RAhead_ok p uv W; rwa [HPA.out] at this))
                clear e2 r2 hu hkm e3 r3 hp hpw
                go_upto_region 12 with fail
                have gd := dr1s wr
                have GD := Lib.hid gd
                clear gd
                refine wp_region_J (rdf [(4, g2, (o2 + (k + 1) * 39 + 36), [(.int .u64 (q : Int))]), (13, g2, (o2 + (k + 1) * 39), [(.string ⟨#[97]⟩)]), (20, g2, (o2 + (k + 1) * 39), uv.cells), (32, g2, (o2 + k * 39), p.cells), (36, g2, (o2 + (k + 1) * 39), uv.cells)]) [6, 21, 37] (by as_aux_lemma => kernel_rfl) (RdA.cons (RK GD.out) (RdA.cons (RC GD.out) (RdA.cons (RU.out.grown GD.out (by simp)) (RdA.cons (RP.out.grown GD.out (by simp)) (RdA.cons (RU.out.grown GD.out (by simp)) RdA.nil))))) (fun hH => ?_)
                refine jp 0 ((.slice (some ⟨g2, o2, none⟩) m c9)) (Still.all hH) ?_ (hk := by as_aux_lemma => kernel_rfl)
                simp only [Act.put, jq1, jq2, jq3, jq4, jq5, jq6]
                refine jp 1 ((.int .i64 ((k : Int) + 1))) (Still.all hH) ?_ (hk := by as_aux_lemma => kernel_rfl)
                simp only [Act.put, jq1, jq3, jq4, jq5, jq6]
                refine jp 2 ((.pointer (some ⟨g2, o2 + (k + 1) * 39, none⟩))) (Still.all hH) ?_ (hk := by as_aux_lemma => kernel_rfl)
                simp only [Act.put, jq1, jq2, jq3, jq4, jq5, jq6]
                refine jp 3 ((.pointer (some ⟨g2, o2 + (k + 1) * 39 + 36, none⟩))) (Still.all hH) ?_ (hk := by as_aux_lemma => kernel_rfl)
                simp only [Act.put, jq1, jq2, jq3, jq4, jq5, jq6]
                refine jr 0 4 ((.int .u64 (q : Int))) rfl rfl (yields_cell (by rfl) 22 _ rfl g2 (o2 + (k + 1) * 39 + 36) rfl (.int .u64 (q : Int)) _ (fun W h => h) Tryz.underlying22 rfl) (Still.all hH) ?_ (hk := by as_aux_lemma => kernel_rfl)
                simp only [Act.put, jq1, jq2, jq3, jq4, jq5, jq6]
                refine jp 5 ((.pointer (some ⟨sg, 0, none⟩))) (Still.all hH) ?_ (hk := by as_aux_lemma => kernel_rfl)
                simp only [Act.put, jq1, jq2, jq3, jq4, jq5, jq6]
                refine wpAnyJ_ready (rs := [6]) (by as_aux_lemma => kernel_rfl) (by simp) ?_
                refine AllJ.keep rfl (by rfl) (by rfl) (fun K hK => ?_) (AllJ.nil)
                refine wp_call 16 _ _ (by rfl) (enters Tryz.func16 (by kernel_rfl) rfl) (by rfl) ((show Calls Tryz.prog 16 #[.pointer (some ⟨sg, 0, none⟩)] _ (fun e w' => e = .returned (.int .u64 (q : Int)) ∧ w' = _) from by have := skey_ok (LV.out.up (Lib.grownBy_trans HG.out GD.out)).rep; rw [LV.out.hs, HQ.out] at this; exact this)) ?_
                rintro e u ⟨rfl, rfl⟩
                refine ⟨_, rfl, ?_⟩
                simp only [Act.put, jq1, jq2, jq3, jq4, jq5, jq6]
                refine hK.out _ _ hH ?_
                clear hK K
                refine jp 7 ((.bool false)) (Still.all hH) ?_ (hk := by as_aux_lemma => kernel_rfl)
                simp only [Act.put, jq1, jq2, jq3, jq4, jq5, jq6]
                refine jp 8 ((.bool false)) (Still.all hH) ?_ (hk := by as_aux_lemma => kernel_rfl)
                simp only [Act.put, jq1, jq2, jq3, jq4, jq5, jq6]
                refine jp 9 ((.slice (some ⟨g2, o2, none⟩) m c9)) (Still.all hH) ?_ (hk := by as_aux_lemma => kernel_rfl)
                simp only [Act.put, jq1, jq2, jq3, jq4, jq5, jq6]
                refine jp 10 ((.int .i64 ((k : Int) + 1))) (Still.all hH) ?_ (hk := by as_aux_lemma => kernel_rfl)
                simp only [Act.put, jq1, jq2, jq3, jq4, jq5, jq6]
                refine jp 11 ((.pointer (some ⟨g2, o2 + (k + 1) * 39, none⟩))) (Still.all hH) ?_ (hk := by as_aux_lemma => kernel_rfl)
                simp only [Act.put, jq1, jq2, jq3, jq4, jq5, jq6]
                refine jp 12 ((.pointer (some ⟨g2, o2 + (k + 1) * 39, none⟩))) (Still.all hH) ?_ (hk := by as_aux_lemma => kernel_rfl)
                simp only [Act.put, jq1, jq2, jq3, jq4, jq5, jq6]
                refine jr 1 13 ((.string ⟨#[97]⟩)) rfl rfl (yields_cell (by rfl) 9 _ rfl g2 (o2 + (k + 1) * 39) rfl (.string ⟨#[97]⟩) _ (fun W h => h) Tryz.underlying9 rfl) (Still.all hH) ?_ (hk := by as_aux_lemma => kernel_rfl)
                simp only [Act.put, jq1, jq2, jq3, jq4, jq5, jq6]
                refine jp 14 ((.bool false)) (Still.all hH) ?_ (hk := by as_aux_lemma => kernel_rfl)
                simp only [Act.put, jq1, jq2, jq3, jq4, jq5, jq6]
                refine jp 15 ((.bool false)) (Still.all hH) ?_ (hk := by as_aux_lemma => kernel_rfl)
                simp only [Act.put, jq1, jq2, jq3, jq4, jq5, jq6]
                refine jp 16 ((.bool false)) (Still.all hH) ?_ (hk := by as_aux_lemma => kernel_rfl)
                simp only [Act.put, jq1, jq2, jq3, jq4, jq5, jq6]
                refine jp 17 ((.slice (some ⟨g2, o2, none⟩) m c9)) (Still.all hH) ?_ (hk := by as_aux_lemma => kernel_rfl)
                simp only [Act.put, jq1, jq2, jq3, jq4, jq5, jq6]
                refine jp 18 ((.int .i64 ((k : Int) + 1))) (Still.all hH) ?_ (hk := by as_aux_lemma => kernel_rfl)
                simp only [Act.put, jq1, jq2, jq3, jq4, jq5, jq6]
                refine jp 19 ((.pointer (some ⟨g2, o2 + (k + 1) * 39, none⟩))) (Still.all hH) ?_ (hk := by as_aux_lemma => kernel_rfl)
                simp only [Act.put, jq1, jq2, jq3, jq4, jq5, jq6]
                refine jr 2 20 ((.agg (uv.cells).toArray)) rfl rfl (yieldsIf_load_mid (by rfl) 40 _ rfl g2 (o2 + (k + 1) * 39) rfl uv.cells _ (fun W h => h) Tryz.underlying40 rfl (uv.size HU.out.1)) (Still.all hH) ?_ (hk := by as_aux_lemma => kernel_rfl)
                simp only [Act.put, jq1, jq2, jq3, jq4, jq5, jq6]
                refine wpAnyJ_ready (rs := [21]) (by as_aux_lemma => kernel_rfl) (by simp) ?_
                refine AllJ.keep rfl (by rfl) (by rfl) (fun K hK => ?_) (AllJ.nil)
                refine wp_call 17 _ _ (by rfl) (enters Tryz.func17 (by kernel_rfl) rfl) (by rfl) (CSG.out _) ?_
                rintro e u ⟨rfl, g9⟩
                refine ⟨_, rfl, ?_⟩
                have GS := Lib.hid g9
                simp only [Act.put, jq1, jq2, jq3, jq4, jq5, jq6]
                refine hK.out _ _ (RdA.grown hH g9) ?_
                replace hH := RdA.grown hH g9
                clear hK K
                clear g9
                refine jp 22 ((.bool false)) (Still.all hH) ?_ (hk := by as_aux_lemma => kernel_rfl)
                simp only [Act.put, jq1, jq2, jq3, jq4, jq5, jq6]
                refine jp 23 ((.bool false)) (Still.all hH) ?_ (hk := by as_aux_lemma => kernel_rfl)
                simp only [Act.put, jq1, jq2, jq3, jq4, jq5, jq6]
                refine jp 24 ((.bool false)) (Still.all hH) ?_ (hk := by as_aux_lemma => kernel_rfl)
                simp only [Act.put, jq1, jq2, jq3, jq4, jq5, jq6]
                refine jp 25 ((.int .i64 ((k : Int) + 1))) (Still.all hH) ?_ (hk := by as_aux_lemma => kernel_rfl)
                simp only [Act.put, jq1, jq2, jq3, jq4, jq5, jq6]
                refine jp 26 ((.bool true)) (Still.all hH) ?_ (hk := by as_aux_lemma => kernel_rfl)
                simp only [Act.put, jq1, jq2, jq3, jq4, jq5, jq6]
                refine jp 27 ((.bool true)) (Still.all hH) ?_ (hk := by as_aux_lemma => kernel_rfl)
                simp only [Act.put, jq1, jq2, jq3, jq4, jq5, jq6]
                refine jp 28 ((.slice (some ⟨g2, o2, none⟩) m c9)) (Still.all hH) ?_ (hk := by as_aux_lemma => kernel_rfl)
                simp only [Act.put, jq1, jq2, jq3, jq4, jq5, jq6]
                refine jp 29 ((.int .i64 ((k : Int) + 1))) (Still.all hH) ?_ (hk := by as_aux_lemma => kernel_rfl)
                simp only [Act.put, jq1, jq2, jq3, jq4, jq5, jq6]
                refine jp 30 ((.int .i64 (k : Int))) (Still.all hH) ?_ (hk := by as_aux_lemma => kernel_rfl)
                simp only [Act.put, jq1, jq2, jq3, jq4, jq5, jq6]
                refine jp 31 ((.pointer (some ⟨g2, o2 + k * 39, none⟩))) (Still.all hH) ?_ (hk := by as_aux_lemma => kernel_rfl)
                simp only [Act.put, jq1, jq2, jq3, jq4, jq5, jq6]
                refine jr 3 32 ((.agg (p.cells).toArray)) rfl rfl (yieldsIf_load_mid (by rfl) 40 _ rfl g2 (o2 + k * 39) rfl p.cells _ (fun W h => h) Tryz.underlying40 rfl (p.size HP.out)) (Still.all hH) ?_ (hk := by as_aux_lemma => kernel_rfl)
                simp only [Act.put, jq1, jq2, jq3, jq4, jq5, jq6]
                refine jp 33 ((.slice (some ⟨g2, o2, none⟩) m c9)) (Still.all hH) ?_ (hk := by as_aux_lemma => kernel_rfl)
                simp only [Act.put, jq1, jq2, jq3, jq4, jq5, jq6]
                refine jp 34 ((.int .i64 ((k : Int) + 1))) (Still.all hH) ?_ (hk := by as_aux_lemma => kernel_rfl)
                simp only [Act.put, jq1, jq2, jq3, jq4, jq5, jq6]
                refine jp 35 ((.pointer (some ⟨g2, o2 + (k + 1) * 39, none⟩))) (Still.all hH) ?_ (hk := by as_aux_lemma => kernel_rfl)
                simp only [Act.put, jq1, jq2, jq3, jq4, jq5, jq6]
                refine jr 4 36 ((.agg (uv.cells).toArray)) rfl rfl (yieldsIf_load_mid (by rfl) 40 _ rfl g2 (o2 + (k + 1) * 39) rfl uv.cells _ (fun W h => h) Tryz.underlying40 rfl (uv.size HU.out.1)) (Still.all hH) ?_ (hk := by as_aux_lemma => kernel_rfl)
                simp only [Act.put, jq1, jq2, jq3, jq4, jq5, jq6]
                refine wpAnyJ_ready (rs := [37]) (by as_aux_lemma => kernel_rfl) (by simp) ?_
                refine AllJ.keep rfl (by rfl) (by rfl) (fun K hK => ?_) (AllJ.nil)
                refine wp_call 14 _ _ (by rfl) (enters Tryz.func14 (by kernel_rfl) rfl) (by rfl) (CAP.out _) ?_
                rintro e u ⟨rfl, g9⟩
                refine ⟨_, rfl, ?_⟩
                have GA := Lib.hid g9
                simp only [Act.put, jq1, jq2, jq3, jq4, jq5, jq6]
                refine hK.out _ _ (RdA.grown hH g9) ?_
                replace hH := RdA.grown hH g9
                clear hK K
                clear g9
                refine jp 38 ((.bool false)) (Still.all hH) ?_ (hk := by as_aux_lemma => kernel_rfl)
                simp only [Act.put, jq1, jq2, jq3, jq4, jq5, jq6]
                refine jp 39 ((.bool false)) (Still.all hH) ?_ (hk := by as_aux_lemma => kernel_rfl)
                simp only [Act.put, jq1, jq2, jq3, jq4, jq5, jq6]
                refine jp 40 ((.bool false)) (Still.all hH) ?_ (hk := by as_aux_lemma => kernel_rfl)
                simp only [Act.put, jq1, jq2, jq3, jq4, jq5, jq6]
                refine wpAnyJ_done (by as_aux_lemma => kernel_rfl) ?_ _
                clear hH
                go_wp2_with fail
                exact ⟨⟨k + 1 + 1, by omega, by go_num, Lib.grownBy_trans HG.out (Lib.grownBy_trans GD.out (Lib.grownBy_trans GS.out GA.out))⟩, by simp [intOf]; omega⟩
            · obtain rfl : k = m := by omega
              go_wp2_with fail
              refine (CA.out wr (Lib.grownBy_trans LV.out.grown HG.out)).mono ?_
              rintro e w8 ⟨rfl, g⟩
              have G8 := Lib.hid g
              clear g
              go_wp2_with fail
              go_ret
              exact ⟨rfl, Lib.grownBy_trans LV.out.grown (Lib.grownBy_trans HG.out G8.out)⟩
      · have d1 : decide ((k : Int) < (s.length : Int)) = false := decide_eq_false (by omega)
        have HQ := Lib.hid (show z.key = pw 37 x by rw [L.out.rep.hkey, L.out.sec])
        obtain ⟨q, hq⟩ : ∃ q, pw 37 x = q := ⟨_, rfl⟩
        have HGD := Lib.hid L.out.good
        unfold Good at HGD
        rw [hq] at HQ HGD
        go_wp2_with fail
        refine (show Calls Tryz.prog 12 #[.pointer (some ⟨sg, 0, none⟩)] wr _ from L.out.hs ▸ sVotes_ok L.out.rep (by have := L.out.len; omega)).mono ?_
        rintro e w5 ⟨v9, rfl, h9, g9, _⟩
        have LV := Lib.hid (L.out.up g9)
        have HV := Lib.hid (fun i hi => votes_at h9 L.out.rep.wf i hi)
        have HM := Lib.hid (show z.vs.length ≤ 1000 by have := L.out.len; omega)
        obtain ⟨a9, c9, hv9, _⟩ := h9.shape
        subst hv9
        obtain ⟨m, hm⟩ : ∃ m, z.vs.length = m := ⟨_, rfl⟩
        rw [hm] at HM
        have HMM := Lib.hid hm
        clear h9 g9 hq L
        rw [hm]
        go_wp2_with fail
        go_loopw [9] (fun i wr => ∃ k : Nat, k ≤ m ∧ i = .int .i64 (k : Int) ∧ w5.grownBy wr none) (fun i _ => m - (intOf i).toNat)
        case atStart => exact ⟨0, Nat.zero_le _, rfl, ref_grown _⟩
        case round =>
          obtain ⟨k, hkm, rfl, hg⟩ := hrel
          have HG := Lib.hid hg
          clear hg hm
          by_cases hlt : k < m
          · obtain ⟨g2, o2, c2, e2, _, _, r2⟩ := HV.out k (by rw [HMM.out]; exact hlt)
            obtain ⟨rfl, rfl⟩ : a9 = some ⟨g2, o2, none⟩ ∧ c9 = c2 := by injection e2 with h1 _ h2; exact ⟨h1, h2⟩
            have HU := Lib.hid (HGD.out.1 _ (List.getElem_mem (l := z.vs) (n := k) (by rw [HMM.out]; exact hlt)))
            have hix : ¬ ((m : Int) ≤ (k : Int)) := by omega
            have ew := IntWalk.i64_in ((k : Int) + 1) (by have := HM.out; omega)
            cases k with
            | zero =>
              obtain ⟨uv, hu⟩ : ∃ u, z.vs[0]'(by rw [HMM.out]; exact hlt) = u := ⟨_, rfl⟩
              rw [hu] at r2 HU
              have RU := Lib.hid (r2.grown HG.out (by simp))
              have RK : ∀ {W : World}, wr.grownBy W none → RowAt W g2 (o2 + 0 * 39 + 36) [.int .u64 (q : Int)] := fun gg => RowAt.one (by have := (VoteD.At.of_row HU.out.1 (RU.out.grown gg (by simp))).key; rw [HU.out.2.2.1] at this; exact this)
              have RC : ∀ {W : World}, wr.grownBy W none → RowAt W g2 (o2 + 0 * 39) [.string ⟨#[97]⟩] := fun gg => RowAt.one (by have := (VoteD.At.of_row HU.out.1 (RU.out.grown gg (by simp))).chain; rw [HU.out.2.2.2] at this; exact this)
              have CSG := Lib.hid (fun W => show Calls Tryz.prog 17 #[.agg uv.cells.toArray] W (fun e w' => e = .returned (.bool true) ∧ W.grownBy w' none) from (by have := signed13_ok uv W HU.out.1; rwa [HU.out.2.1] at this))
              clear e2 r2 hu hkm
              have hix0 : ¬ ((m : Int) ≤ 0) := by omega
              go_upto_region 12 with fail
              have gd := dr1s wr
              have GD := Lib.hid gd
              clear gd
              refine wp_region_J (rdf [(4, g2, (o2 + 0 * 39 + 36), [(.int .u64 (q : Int))]), (13, g2, (o2 + 0 * 39), [(.string ⟨#[97]⟩)]), (20, g2, (o2 + 0 * 39), uv.cells)]) [6, 21] (by as_aux_lemma => kernel_rfl) (RdA.cons (RK GD.out) (RdA.cons (RC GD.out) (RdA.cons (RU.out.grown GD.out (by simp)) RdA.nil))) (fun hH => ?_)
              refine jp 0 ((.slice (some ⟨g2, o2, none⟩) m c9)) (Still.all hH) ?_ (hk := by as_aux_lemma => kernel_rfl)
              simp only [Act.put, jq1, jq3, jq4, jq5, jq6]
              refine jp 1 ((.int .i64 0)) (Still.all hH) ?_ (hk := by as_aux_lemma => kernel_rfl)
              simp only [Act.put, jq1, jq2, jq3, jq4, jq5, jq6]
              refine jp 2 ((.pointer (some ⟨g2, o2 + 0 * 39, none⟩))) (Still.all hH) ?_ (hk := by as_aux_lemma => kernel_rfl)
              simp only [Act.put, jq1, jq2, jq3, jq4, jq5, jq6]
              refine jp 3 ((.pointer (some ⟨g2, o2 + 0 * 39 + 36, none⟩))) (Still.all hH) ?_ (hk := by as_aux_lemma => kernel_rfl)
              simp only [Act.put, jq1, jq2, jq3, jq4, jq5, jq6]
              refine jr 0 4 ((.int .u64 (q : Int))) rfl rfl (yields_cell (by rfl) 22 _ rfl g2 (o2 + 0 * 39 + 36) rfl (.int .u64 (q : Int)) _ (fun W h => h) Tryz.underlying22 rfl) (Still.all hH) ?_ (hk := by as_aux_lemma => kernel_rfl)
              simp only [Act.put, jq1, jq2, jq3, jq4, jq5, jq6]
              refine jp 5 ((.pointer (some ⟨sg, 0, none⟩))) (Still.all hH) ?_ (hk := by as_aux_lemma => kernel_rfl)
              simp only [Act.put, jq1, jq2, jq3, jq4, jq5, jq6]
              refine wpAnyJ_ready (rs := [6]) (by as_aux_lemma => kernel_rfl) (by simp) ?_
              refine AllJ.keep rfl (by rfl) (by rfl) (fun K hK => ?_) (AllJ.nil)
              refine wp_call 16 _ _ (by rfl) (enters Tryz.func16 (by kernel_rfl) rfl) (by rfl) ((show Calls Tryz.prog 16 #[.pointer (some ⟨sg, 0, none⟩)] _ (fun e w' => e = .returned (.int .u64 (q : Int)) ∧ w' = _) from by have := skey_ok (LV.out.up (Lib.grownBy_trans HG.out GD.out)).rep; rw [LV.out.hs, HQ.out] at this; exact this)) ?_
              rintro e u ⟨rfl, rfl⟩
              refine ⟨_, rfl, ?_⟩
              simp only [Act.put, jq1, jq2, jq3, jq4, jq5, jq6]
              refine hK.out _ _ hH ?_
              clear hK K
              refine jp 7 ((.bool false)) (Still.all hH) ?_ (hk := by as_aux_lemma => kernel_rfl)
              simp only [Act.put, jq1, jq2, jq3, jq4, jq5, jq6]
              refine jp 8 ((.bool false)) (Still.all hH) ?_ (hk := by as_aux_lemma => kernel_rfl)
              simp only [Act.put, jq1, jq2, jq3, jq4, jq5, jq6]
              refine jp 9 ((.slice (some ⟨g2, o2, none⟩) m c9)) (Still.all hH) ?_ (hk := by as_aux_lemma => kernel_rfl)
              simp only [Act.put, jq1, jq2, jq3, jq4, jq5, jq6]
              refine jp 10 ((.int .i64 0)) (Still.all hH) ?_ (hk := by as_aux_lemma => kernel_rfl)
              simp only [Act.put, jq1, jq2, jq3, jq4, jq5, jq6]
              refine jp 11 ((.pointer (some ⟨g2, o2 + 0 * 39, none⟩))) (Still.all hH) ?_ (hk := by as_aux_lemma => kernel_rfl)
              simp only [Act.put, jq1, jq2, jq3, jq4, jq5, jq6]
              refine jp 12 ((.pointer (some ⟨g2, o2 + 0 * 39, none⟩))) (Still.all hH) ?_ (hk := by as_aux_lemma => kernel_rfl)
              simp only [Act.put, jq1, jq2, jq3, jq4, jq5, jq6]
              refine jr 1 13 ((.string ⟨#[97]⟩)) rfl rfl (yields_cell (by rfl) 9 _ rfl g2 (o2 + 0 * 39) rfl (.string ⟨#[97]⟩) _ (fun W h => h) Tryz.underlying9 rfl) (Still.all hH) ?_ (hk := by as_aux_lemma => kernel_rfl)
              simp only [Act.put, jq1, jq2, jq3, jq4, jq5, jq6]
              refine jp 14 ((.bool false)) (Still.all hH) ?_ (hk := by as_aux_lemma => kernel_rfl)
              simp only [Act.put, jq1, jq2, jq3, jq4, jq5, jq6]
              refine jp 15 ((.bool false)) (Still.all hH) ?_ (hk := by as_aux_lemma => kernel_rfl)
              simp only [Act.put, jq1, jq2, jq3, jq4, jq5, jq6]
              refine jp 16 ((.bool false)) (Still.all hH) ?_ (hk := by as_aux_lemma => kernel_rfl)
              simp only [Act.put, jq1, jq2, jq3, jq4, jq5, jq6]
              refine jp 17 ((.slice (some ⟨g2, o2, none⟩) m c9)) (Still.all hH) ?_ (hk := by as_aux_lemma => kernel_rfl)
              simp only [Act.put, jq1, jq2, jq3, jq4, jq5, jq6]
              refine jp 18 ((.int .i64 0)) (Still.all hH) ?_ (hk := by as_aux_lemma => kernel_rfl)
              simp only [Act.put, jq1, jq2, jq3, jq4, jq5, jq6]
              refine jp 19 ((.pointer (some ⟨g2, o2 + 0 * 39, none⟩))) (Still.all hH) ?_ (hk := by as_aux_lemma => kernel_rfl)
              simp only [Act.put, jq1, jq2, jq3, jq4, jq5, jq6]
              refine jr 2 20 ((.agg (uv.cells).toArray)) rfl rfl (yieldsIf_load_mid (by rfl) 40 _ rfl g2 (o2 + 0 * 39) rfl uv.cells _ (fun W h => h) Tryz.underlying40 rfl (uv.size HU.out.1)) (Still.all hH) ?_ (hk := by as_aux_lemma => kernel_rfl)
              simp only [Act.put, jq1, jq2, jq3, jq4, jq5, jq6]
              refine wpAnyJ_ready (rs := [21]) (by as_aux_lemma => kernel_rfl) (by simp) ?_
              refine AllJ.keep rfl (by rfl) (by rfl) (fun K hK => ?_) (AllJ.nil)
              refine wp_call 17 _ _ (by rfl) (enters Tryz.func17 (by kernel_rfl) rfl) (by rfl) (CSG.out _) ?_
              rintro e u ⟨rfl, g9⟩
              refine ⟨_, rfl, ?_⟩
              have GS := Lib.hid g9
              simp only [Act.put, jq1, jq2, jq3, jq4, jq5, jq6]
              refine hK.out _ _ (RdA.grown hH g9) ?_
              replace hH := RdA.grown hH g9
              clear hK K
              clear g9
              refine jp 22 ((.bool false)) (Still.all hH) ?_ (hk := by as_aux_lemma => kernel_rfl)
              simp only [Act.put, jq1, jq2, jq3, jq4, jq5, jq6]
              refine jp 23 ((.bool false)) (Still.all hH) ?_ (hk := by as_aux_lemma => kernel_rfl)
              simp only [Act.put, jq1, jq2, jq3, jq4, jq5, jq6]
              refine jp 24 ((.bool false)) (Still.all hH) ?_ (hk := by as_aux_lemma => kernel_rfl)
              simp only [Act.put, jq1, jq2, jq3, jq4, jq5, jq6]
              refine jp 25 ((.int .i64 0)) (Still.all hH) ?_ (hk := by as_aux_lemma => kernel_rfl)
              simp only [Act.put, jq1, jq2, jq3, jq4, jq5, jq6]
              refine jp 26 ((.bool false)) (Still.all hH) ?_ (hk := by as_aux_lemma => kernel_rfl)
              simp only [Act.put, jq1, jq2, jq3, jq4, jq5, jq6]
              refine jp 27 ((.bool false)) (Still.all hH) ?_ (hk := by as_aux_lemma => kernel_rfl)
              simp only [Act.put, jq1, jq2, jq3, jq4, jq5, jq6]
              refine jp 28 undef (Still.all hH) ?_ (hy := Or.inr ⟨by rfl, rfl⟩) (hk := by as_aux_lemma => kernel_rfl)
              simp only [Act.put, jq1, jq2, jq3, jq4, jq5, jq6]
              refine jp 29 undef (Still.all hH) ?_ (hy := Or.inr ⟨by rfl, rfl⟩) (hk := by as_aux_lemma => kernel_rfl)
              simp only [Act.put, jq1, jq2, jq3, jq4, jq5, jq6]
              refine jp 30 undef (Still.all hH) ?_ (hy := Or.inr ⟨by rfl, rfl⟩) (hk := by as_aux_lemma => kernel_rfl)
              simp only [Act.put, jq1, jq2, jq3, jq4, jq5, jq6]
              refine jp 31 undef (Still.all hH) ?_ (hy := Or.inr ⟨by rfl, rfl⟩) (hk := by as_aux_lemma => kernel_rfl)
              simp only [Act.put, jq1, jq2, jq3, jq4, jq5, jq6]
              refine jp 32 undef (Still.all hH) ?_ (hy := Or.inr ⟨by rfl, rfl⟩) (hk := by as_aux_lemma => kernel_rfl)
              simp only [Act.put, jq1, jq2, jq3, jq4, jq5, jq6]
              refine jp 33 undef (Still.all hH) ?_ (hy := Or.inr ⟨by rfl, rfl⟩) (hk := by as_aux_lemma => kernel_rfl)
              simp only [Act.put, jq1, jq2, jq3, jq4, jq5, jq6]
              refine jp 34 undef (Still.all hH) ?_ (hy := Or.inr ⟨by rfl, rfl⟩) (hk := by as_aux_lemma => kernel_rfl)
              simp only [Act.put, jq1, jq2, jq3, jq4, jq5, jq6]
              refine jp 35 undef (Still.all hH) ?_ (hy := Or.inr ⟨by rfl, rfl⟩) (hk := by as_aux_lemma => kernel_rfl)
              simp only [Act.put, jq1, jq2, jq3, jq4, jq5, jq6]
              refine jp 36 undef (Still.all hH) ?_ (hy := Or.inr ⟨by rfl, rfl⟩) (hk := by as_aux_lemma => kernel_rfl)
              simp only [Act.put, jq1, jq2, jq3, jq4, jq5, jq6]
              refine jp 37 undef (Still.all hH) ?_ (hy := Or.inr ⟨by rfl, rfl⟩) (hk := by as_aux_lemma => kernel_rfl)
              simp only [Act.put, jq1, jq2, jq3, jq4, jq5, jq6]
              refine jp 38 undef (Still.all hH) ?_ (hy := Or.inr ⟨by rfl, rfl⟩) (hk := by as_aux_lemma => kernel_rfl)
              simp only [Act.put, jq1, jq2, jq3, jq4, jq5, jq6]
              refine jp 39 ((.bool false)) (Still.all hH) ?_ (hk := by as_aux_lemma => kernel_rfl)
              simp only [Act.put, jq1, jq2, jq3, jq4, jq5, jq6]
              refine jp 40 ((.bool false)) (Still.all hH) ?_ (hk := by as_aux_lemma => kernel_rfl)
              simp only [Act.put, jq1, jq2, jq3, jq4, jq5, jq6]
              refine wpAnyJ_done (by as_aux_lemma => kernel_rfl) ?_ _
              clear hH
              go_wp2_with fail
              exact ⟨⟨1, by omega, by go_num, Lib.grownBy_trans HG.out (Lib.grownBy_trans GD.out GS.out)⟩, by simp [intOf]; omega⟩
            | succ k =>
              obtain ⟨uv, hu⟩ : ∃ u, z.vs[k + 1]'(by rw [HMM.out]; exact hlt) = u := ⟨_, rfl⟩
              obtain ⟨_, _, _, e3, _, _, r3⟩ := HV.out k (by rw [HMM.out]; omega)
              obtain ⟨e31, _, _⟩ := Value.slice.inj e3
              injection e31 with e31
              injection e31 with e32 e33 _
              subst e32 e33
              have HPA := HGD.out.2 k (by rw [HMM.out]; exact hlt)
              have hpw := (HGD.out.1 _ (List.getElem_mem (l := z.vs) (n := k) (by rw [HMM.out]; omega))).1
              obtain ⟨p, hp⟩ : ∃ p, z.vs[k]'(by rw [HMM.out]; omega) = p := ⟨_, rfl⟩
              rw [hu] at r2 HU HPA
              rw [hp] at r3 HPA hpw
              replace HPA := Lib.hid HPA
              have HP := Lib.hid hpw
              have RU := Lib.hid (r2.grown HG.out (by simp)); have RP := Lib.hid (r3.grown HG.out (by simp))
              have RK : ∀ {W : World}, wr.grownBy W none → RowAt W g2 (o2 + (k + 1) * 39 + 36) [.int .u64 (q : Int)] := fun gg => RowAt.one (by have := (VoteD.At.of_row HU.out.1 (RU.out.grown gg (by simp))).key; rw [HU.out.2.2.1] at this; exact this)
              have RC : ∀ {W : World}, wr.grownBy W none → RowAt W g2 (o2 + (k + 1) * 39) [.string ⟨#[97]⟩] := fun gg => RowAt.one (by have := (VoteD.At.of_row HU.out.1 (RU.out.grown gg (by simp))).chain; rw [HU.out.2.2.2] at this; exact this)
              have hpos : decide ((0 : Int) < (k : Int) + 1) = true := decide_eq_true (by omega)
              have hix2 : ¬ ((m : Int) ≤ (k : Int) + 1) := by omega
              have hix3 : ¬ ((m : Int) ≤ (k : Int)) := by omega
              have hix4 : ¬ (m ≤ k) := by omega
              have hng : ¬ ((k : Int) + 1 < 0) := by omega
              have ew3 := IntWalk.i64_in ((k : Int) + 1 + 1) (by have := HM.out; omega)
              have ew2 := IntWalk.i64_in ((k : Int)) (by have := HM.out; omega)
              have CSG := Lib.hid (fun W => show Calls Tryz.prog 17 #[.agg uv.cells.toArray] W (fun e w' => e = .returned (.bool true) ∧ W.grownBy w' none) from (by have := signed13_ok uv W HU.out.1; rwa [HU.out.2.1] at this))
              have CAP := Lib.hid (fun W => show Calls Tryz.prog 14 #[.agg p.cells.toArray, .agg uv.cells.toArray] W (fun e w' => e = .returned (.bool true) ∧ W.grownBy w' none) from (by have := RAhead_ok p uv W; rwa [HPA.out] at this))
              clear e2 r2 hu hkm e3 r3 hp hpw
              go_upto_region 12 with fail
              have gd := dr1s wr
              have GD := Lib.hid gd
              clear gd
              refine wp_region_J (rdf [(4, g2, (o2 + (k + 1) * 39 + 36), [(.int .u64 (q : Int))]), (13, g2, (o2 + (k + 1) * 39), [(.string ⟨#[97]⟩)]), (20, g2, (o2 + (k + 1) * 39), uv.cells), (32, g2, (o2 + k * 39), p.cells), (36, g2, (o2 + (k + 1) * 39), uv.cells)]) [6, 21, 37] (by as_aux_lemma => kernel_rfl) (RdA.cons (RK GD.out) (RdA.cons (RC GD.out) (RdA.cons (RU.out.grown GD.out (by simp)) (RdA.cons (RP.out.grown GD.out (by simp)) (RdA.cons (RU.out.grown GD.out (by simp)) RdA.nil))))) (fun hH => ?_)
              refine jp 0 ((.slice (some ⟨g2, o2, none⟩) m c9)) (Still.all hH) ?_ (hk := by as_aux_lemma => kernel_rfl)
              simp only [Act.put, jq1, jq2, jq3, jq4, jq5, jq6]
              refine jp 1 ((.int .i64 ((k : Int) + 1))) (Still.all hH) ?_ (hk := by as_aux_lemma => kernel_rfl)
              simp only [Act.put, jq1, jq3, jq4, jq5, jq6]
              refine jp 2 ((.pointer (some ⟨g2, o2 + (k + 1) * 39, none⟩))) (Still.all hH) ?_ (hk := by as_aux_lemma => kernel_rfl)
              simp only [Act.put, jq1, jq2, jq3, jq4, jq5, jq6]
              refine jp 3 ((.pointer (some ⟨g2, o2 + (k + 1) * 39 + 36, none⟩))) (Still.all hH) ?_ (hk := by as_aux_lemma => kernel_rfl)
              simp only [Act.put, jq1, jq2, jq3, jq4, jq5, jq6]
              refine jr 0 4 ((.int .u64 (q : Int))) rfl rfl (yields_cell (by rfl) 22 _ rfl g2 (o2 + (k + 1) * 39 + 36) rfl (.int .u64 (q : Int)) _ (fun W h => h) Tryz.underlying22 rfl) (Still.all hH) ?_ (hk := by as_aux_lemma => kernel_rfl)
              simp only [Act.put, jq1, jq2, jq3, jq4, jq5, jq6]
              refine jp 5 ((.pointer (some ⟨sg, 0, none⟩))) (Still.all hH) ?_ (hk := by as_aux_lemma => kernel_rfl)
              simp only [Act.put, jq1, jq2, jq3, jq4, jq5, jq6]
              refine wpAnyJ_ready (rs := [6]) (by as_aux_lemma => kernel_rfl) (by simp) ?_
              refine AllJ.keep rfl (by rfl) (by rfl) (fun K hK => ?_) (AllJ.nil)
              refine wp_call 16 _ _ (by rfl) (enters Tryz.func16 (by kernel_rfl) rfl) (by rfl) ((show Calls Tryz.prog 16 #[.pointer (some ⟨sg, 0, none⟩)] _ (fun e w' => e = .returned (.int .u64 (q : Int)) ∧ w' = _) from by have := skey_ok (LV.out.up (Lib.grownBy_trans HG.out GD.out)).rep; rw [LV.out.hs, HQ.out] at this; exact this)) ?_
              rintro e u ⟨rfl, rfl⟩
              refine ⟨_, rfl, ?_⟩
              simp only [Act.put, jq1, jq2, jq3, jq4, jq5, jq6]
              refine hK.out _ _ hH ?_
              clear hK K
              refine jp 7 ((.bool false)) (Still.all hH) ?_ (hk := by as_aux_lemma => kernel_rfl)
              simp only [Act.put, jq1, jq2, jq3, jq4, jq5, jq6]
              refine jp 8 ((.bool false)) (Still.all hH) ?_ (hk := by as_aux_lemma => kernel_rfl)
              simp only [Act.put, jq1, jq2, jq3, jq4, jq5, jq6]
              refine jp 9 ((.slice (some ⟨g2, o2, none⟩) m c9)) (Still.all hH) ?_ (hk := by as_aux_lemma => kernel_rfl)
              simp only [Act.put, jq1, jq2, jq3, jq4, jq5, jq6]
              refine jp 10 ((.int .i64 ((k : Int) + 1))) (Still.all hH) ?_ (hk := by as_aux_lemma => kernel_rfl)
              simp only [Act.put, jq1, jq2, jq3, jq4, jq5, jq6]
              refine jp 11 ((.pointer (some ⟨g2, o2 + (k + 1) * 39, none⟩))) (Still.all hH) ?_ (hk := by as_aux_lemma => kernel_rfl)
              simp only [Act.put, jq1, jq2, jq3, jq4, jq5, jq6]
              refine jp 12 ((.pointer (some ⟨g2, o2 + (k + 1) * 39, none⟩))) (Still.all hH) ?_ (hk := by as_aux_lemma => kernel_rfl)
              simp only [Act.put, jq1, jq2, jq3, jq4, jq5, jq6]
              refine jr 1 13 ((.string ⟨#[97]⟩)) rfl rfl (yields_cell (by rfl) 9 _ rfl g2 (o2 + (k + 1) * 39) rfl (.string ⟨#[97]⟩) _ (fun W h => h) Tryz.underlying9 rfl) (Still.all hH) ?_ (hk := by as_aux_lemma => kernel_rfl)
              simp only [Act.put, jq1, jq2, jq3, jq4, jq5, jq6]
              refine jp 14 ((.bool false)) (Still.all hH) ?_ (hk := by as_aux_lemma => kernel_rfl)
              simp only [Act.put, jq1, jq2, jq3, jq4, jq5, jq6]
              refine jp 15 ((.bool false)) (Still.all hH) ?_ (hk := by as_aux_lemma => kernel_rfl)
              simp only [Act.put, jq1, jq2, jq3, jq4, jq5, jq6]
              refine jp 16 ((.bool false)) (Still.all hH) ?_ (hk := by as_aux_lemma => kernel_rfl)
              simp only [Act.put, jq1, jq2, jq3, jq4, jq5, jq6]
              refine jp 17 ((.slice (some ⟨g2, o2, none⟩) m c9)) (Still.all hH) ?_ (hk := by as_aux_lemma => kernel_rfl)
              simp only [Act.put, jq1, jq2, jq3, jq4, jq5, jq6]
              refine jp 18 ((.int .i64 ((k : Int) + 1))) (Still.all hH) ?_ (hk := by as_aux_lemma => kernel_rfl)
              simp only [Act.put, jq1, jq2, jq3, jq4, jq5, jq6]
              refine jp 19 ((.pointer (some ⟨g2, o2 + (k + 1) * 39, none⟩))) (Still.all hH) ?_ (hk := by as_aux_lemma => kernel_rfl)
              simp only [Act.put, jq1, jq2, jq3, jq4, jq5, jq6]
              refine jr 2 20 ((.agg (uv.cells).toArray)) rfl rfl (yieldsIf_load_mid (by rfl) 40 _ rfl g2 (o2 + (k + 1) * 39) rfl uv.cells _ (fun W h => h) Tryz.underlying40 rfl (uv.size HU.out.1)) (Still.all hH) ?_ (hk := by as_aux_lemma => kernel_rfl)
              simp only [Act.put, jq1, jq2, jq3, jq4, jq5, jq6]
              refine wpAnyJ_ready (rs := [21]) (by as_aux_lemma => kernel_rfl) (by simp) ?_
              refine AllJ.keep rfl (by rfl) (by rfl) (fun K hK => ?_) (AllJ.nil)
              refine wp_call 17 _ _ (by rfl) (enters Tryz.func17 (by kernel_rfl) rfl) (by rfl) (CSG.out _) ?_
              rintro e u ⟨rfl, g9⟩
              refine ⟨_, rfl, ?_⟩
              have GS := Lib.hid g9
              simp only [Act.put, jq1, jq2, jq3, jq4, jq5, jq6]
              refine hK.out _ _ (RdA.grown hH g9) ?_
              replace hH := RdA.grown hH g9
              clear hK K
              clear g9
              refine jp 22 ((.bool false)) (Still.all hH) ?_ (hk := by as_aux_lemma => kernel_rfl)
              simp only [Act.put, jq1, jq2, jq3, jq4, jq5, jq6]
              refine jp 23 ((.bool false)) (Still.all hH) ?_ (hk := by as_aux_lemma => kernel_rfl)
              simp only [Act.put, jq1, jq2, jq3, jq4, jq5, jq6]
              refine jp 24 ((.bool false)) (Still.all hH) ?_ (hk := by as_aux_lemma => kernel_rfl)
              simp only [Act.put, jq1, jq2, jq3, jq4, jq5, jq6]
              refine jp 25 ((.int .i64 ((k : Int) + 1))) (Still.all hH) ?_ (hk := by as_aux_lemma => kernel_rfl)
              simp only [Act.put, jq1, jq2, jq3, jq4, jq5, jq6]
              refine jp 26 ((.bool true)) (Still.all hH) ?_ (hk := by as_aux_lemma => kernel_rfl)
              simp only [Act.put, jq1, jq2, jq3, jq4, jq5, jq6]
              refine jp 27 ((.bool true)) (Still.all hH) ?_ (hk := by as_aux_lemma => kernel_rfl)
              simp only [Act.put, jq1, jq2, jq3, jq4, jq5, jq6]
              refine jp 28 ((.slice (some ⟨g2, o2, none⟩) m c9)) (Still.all hH) ?_ (hk := by as_aux_lemma => kernel_rfl)
              simp only [Act.put, jq1, jq2, jq3, jq4, jq5, jq6]
              refine jp 29 ((.int .i64 ((k : Int) + 1))) (Still.all hH) ?_ (hk := by as_aux_lemma => kernel_rfl)
              simp only [Act.put, jq1, jq2, jq3, jq4, jq5, jq6]
              refine jp 30 ((.int .i64 (k : Int))) (Still.all hH) ?_ (hk := by as_aux_lemma => kernel_rfl)
              simp only [Act.put, jq1, jq2, jq3, jq4, jq5, jq6]
              refine jp 31 ((.pointer (some ⟨g2, o2 + k * 39, none⟩))) (Still.all hH) ?_ (hk := by as_aux_lemma => kernel_rfl)
              simp only [Act.put, jq1, jq2, jq3, jq4, jq5, jq6]
              refine jr 3 32 ((.agg (p.cells).toArray)) rfl rfl (yieldsIf_load_mid (by rfl) 40 _ rfl g2 (o2 + k * 39) rfl p.cells _ (fun W h => h) Tryz.underlying40 rfl (p.size HP.out)) (Still.all hH) ?_ (hk := by as_aux_lemma => kernel_rfl)
              simp only [Act.put, jq1, jq2, jq3, jq4, jq5, jq6]
              refine jp 33 ((.slice (some ⟨g2, o2, none⟩) m c9)) (Still.all hH) ?_ (hk := by as_aux_lemma => kernel_rfl)
              simp only [Act.put, jq1, jq2, jq3, jq4, jq5, jq6]
              refine jp 34 ((.int .i64 ((k : Int) + 1))) (Still.all hH) ?_ (hk := by as_aux_lemma => kernel_rfl)
              simp only [Act.put, jq1, jq2, jq3, jq4, jq5, jq6]
              refine jp 35 ((.pointer (some ⟨g2, o2 + (k + 1) * 39, none⟩))) (Still.all hH) ?_ (hk := by as_aux_lemma => kernel_rfl)
              simp only [Act.put, jq1, jq2, jq3, jq4, jq5, jq6]
              refine jr 4 36 ((.agg (uv.cells).toArray)) rfl rfl (yieldsIf_load_mid (by rfl) 40 _ rfl g2 (o2 + (k + 1) * 39) rfl uv.cells _ (fun W h => h) Tryz.underlying40 rfl (uv.size HU.out.1)) (Still.all hH) ?_ (hk := by as_aux_lemma => kernel_rfl)
              simp only [Act.put, jq1, jq2, jq3, jq4, jq5, jq6]
              refine wpAnyJ_ready (rs := [37]) (by as_aux_lemma => kernel_rfl) (by simp) ?_
              refine AllJ.keep rfl (by rfl) (by rfl) (fun K hK => ?_) (AllJ.nil)
              refine wp_call 14 _ _ (by rfl) (enters Tryz.func14 (by kernel_rfl) rfl) (by rfl) (CAP.out _) ?_
              rintro e u ⟨rfl, g9⟩
              refine ⟨_, rfl, ?_⟩
              have GA := Lib.hid g9
              simp only [Act.put, jq1, jq2, jq3, jq4, jq5, jq6]
              refine hK.out _ _ (RdA.grown hH g9) ?_
              replace hH := RdA.grown hH g9
              clear hK K
              clear g9
              refine jp 38 ((.bool false)) (Still.all hH) ?_ (hk := by as_aux_lemma => kernel_rfl)
              simp only [Act.put, jq1, jq2, jq3, jq4, jq5, jq6]
              refine jp 39 ((.bool false)) (Still.all hH) ?_ (hk := by as_aux_lemma => kernel_rfl)
              simp only [Act.put, jq1, jq2, jq3, jq4, jq5, jq6]
              refine jp 40 ((.bool false)) (Still.all hH) ?_ (hk := by as_aux_lemma => kernel_rfl)
              simp only [Act.put, jq1, jq2, jq3, jq4, jq5, jq6]
              refine wpAnyJ_done (by as_aux_lemma => kernel_rfl) ?_ _
              clear hH
              go_wp2_with fail
              exact ⟨⟨k + 1 + 1, by omega, by go_num, Lib.grownBy_trans HG.out (Lib.grownBy_trans GD.out (Lib.grownBy_trans GS.out GA.out))⟩, by simp [intOf]; omega⟩
          · obtain rfl : k = m := by omega
            go_wp2_with fail
            refine (CA.out wr (Lib.grownBy_trans LV.out.grown HG.out)).mono ?_
            rintro e w8 ⟨rfl, g⟩
            have G8 := Lib.hid g
            clear g
            go_wp2_with fail
            go_ret
            exact ⟨rfl, Lib.grownBy_trans LV.out.grown (Lib.grownBy_trans HG.out G8.out)⟩

end Go.Proofs.YtcbkehnlgpcelaaGreatDoor
