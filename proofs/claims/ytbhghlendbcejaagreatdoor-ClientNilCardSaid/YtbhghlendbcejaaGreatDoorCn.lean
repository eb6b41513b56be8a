/- Walks: nunciolaw19's nan, ClientNil. -/
import Derived.Test.YtbhghlendbcejaaGreatDoorCle
namespace Go.Proofs.YtbhghlendbcejaaGreatDoor
open Go.RowKit Go.Maps Ieee
set_option maxRecDepth 100000

/-! floats that are none -/
section
variable {P : Program} {t : TypeId} {x y : Nat}
theorem run_add_none (h : floatBits .add .f64 x y = none) (w : World) : ∃ z, nanW z ∧ z < 18446744073709551616 ∧ (binOp .add t (.float .f64 x) (.float .f64 y)).run P w = .ok (.float .f64 z) w.drew := by
  refine ⟨_, nan_of_cut (w.tape w.drawn (.nanBits .f64 x y)), ?_, ?_⟩
  · have h1 := Nat.mod_lt (w.tape w.drawn (.nanBits .f64 x y) / 2) (show 0 < 2 ^ 52 - 1 by decide)
    rcases Nat.mod_two_eq_zero_or_one (w.tape w.drawn (.nanBits .f64 x y)) with h | h <;> rw [h] <;> omega
  · have h2 : FloatKind.f64.format.add x y = none := h
    simp [binOp, Op.floatArith, h2, Question.forced, Question.cut]
theorem run_quo_none (h : floatBits .quo .f64 x y = none) (w : World) : ∃ z, nanW z ∧ z < 18446744073709551616 ∧ (binOp .quo t (.float .f64 x) (.float .f64 y)).run P w = .ok (.float .f64 z) w.drew := by
  refine ⟨_, nan_of_cut (w.tape w.drawn (.nanBits .f64 x y)), ?_, ?_⟩
  · have h1 := Nat.mod_lt (w.tape w.drawn (.nanBits .f64 x y) / 2) (show 0 < 2 ^ 52 - 1 by decide)
    rcases Nat.mod_two_eq_zero_or_one (w.tape w.drawn (.nanBits .f64 x y)) with h | h <;> rw [h] <;> omega
  · have h2 : FloatKind.f64.format.div x y = none := h
    simp [binOp, Op.floatArith, h2, Question.forced, Question.cut]
theorem add_nan (h : nanW x ∨ nanW y) : floatBits .add .f64 x y = none := by
  show FD.add x y = none
  unfold Format.add
  rcases h with h | h
  · obtain ⟨s, f, e⟩ := read_nan h
    rw [e]; rfl
  · obtain ⟨s, f, e⟩ := read_nan h
    rw [e]
    cases FD.read x <;> rfl
theorem sub_nan (h : nanW x) : floatBits .sub .f64 x y = none := by
  show FD.sub x y = none
  unfold Format.sub
  obtain ⟨s, f, e⟩ := read_nan h
  rw [e]; rfl
theorem quo_nan (h : nanW x) : floatBits .quo .f64 x y = none := by
  show FD.div x y = none
  unfold Format.div
  obtain ⟨s, f, e⟩ := read_nan h
  rw [e]; rfl
end
/-- what a difference of a word to itself is -/
def SubSelf (x z : Nat) : Prop := z < 18446744073709551616 ∧ (finF x ∧ (z = 0 ∨ z = 9223372036854775808) ∨ ¬ finF x ∧ nanW z)
theorem sub_self2 (x : Nat) (hx : x < 18446744073709551616) (w : World) : ∃ z w', (binOp .sub 41 (.float .f64 x) (.float .f64 x)).run Tryz.prog w = .ok (.float .f64 z) w' ∧ w.grownBy w' none ∧ SubSelf x z := by
  by_cases hf : finF x
  · obtain ⟨z, e, h1, h2, h3⟩ := sub_same hf
    refine ⟨z, w, run_float_arith w .sub _ .f64 x x z e, gb_refl w, h1, .inl ⟨hf, ?_⟩⟩
    unfold keyF at h3
    split at h3 <;> omega
  · have hs : floatBits .sub .f64 x x = none := by
      rcases word_cases hx with h | h | h
      · exact sub_nan h
      · exact absurd h hf
      · exact sub_inf h
    obtain ⟨z, h1, h2, h3⟩ := run_sub_none (P := Tryz.prog) (t := 41) hs w
    exact ⟨z, w.drew, h3, dr_grown w 1, h2, .inr ⟨hf, h1⟩⟩
theorem quo_self2 {x z1 z2 : Nat} (h1 : SubSelf x z1) (h2 : SubSelf x z2) (w : World) : ∃ z w', (binOp .quo 41 (.float .f64 z1) (.float .f64 z2)).run Tryz.prog w = .ok (.float .f64 z) w' ∧ w.grownBy w' none ∧ nanW z ∧ z < 18446744073709551616 := by
  have hn : floatBits .quo .f64 z1 z2 = none := by
    rcases h1.2 with ⟨_, h1⟩ | ⟨_, h1⟩
    · rcases h2.2 with ⟨_, h2⟩ | ⟨h2, _⟩
      · rcases h1 with rfl | rfl <;> rcases h2 with rfl | rfl <;> decide +kernel
      · contradiction
    · exact quo_nan h1
  obtain ⟨z, k1, k2, k3⟩ := run_quo_none (P := Tryz.prog) (t := 41) hn w
  exact ⟨z, w.drew, k3, dr_grown w 1, k1, k2⟩
def NanZ (x z : Nat) : Prop := z < 18446744073709551616 ∧ (gtF x 0 = true ∧ z = 0 ∨ gtF x 0 = false ∧ nanW z)
/-- is the clock none? -/
def noneB (x : Nat) : Bool := !(finB x && gtF x 0)
theorem add_self2 {x s z : Nat} (hx : x < 18446744073709551616) (h1 : SubSelf x s) (h2 : NanZ x z) (w : World) : ∃ v w', (binOp .add 41 (.float .f64 s) (.float .f64 z)).run Tryz.prog w = .ok (.float .f64 v) w' ∧ w.grownBy w' none ∧ v < 18446744073709551616 ∧ nanF v = noneB x := by
  have go : (nanW s ∨ nanW z) → noneB x = true → ∃ v w', (binOp .add 41 (.float .f64 s) (.float .f64 z)).run Tryz.prog w = .ok (.float .f64 v) w' ∧ w.grownBy w' none ∧ v < 18446744073709551616 ∧ nanF v = noneB x := fun h hb => by
    obtain ⟨v, k1, k2, k3⟩ := run_add_none (P := Tryz.prog) (t := 41) (add_nan h) w
    exact ⟨v, w.drew, k3, dr_grown w 1, k2, by rw [(nanF_iff k2).2 k1, hb]⟩
  rcases h2.2 with ⟨hg, hz⟩ | ⟨hg, hz⟩
  · rcases h1.2 with ⟨hf, hs⟩ | ⟨hf, hs⟩
    · have hb : noneB x = false := by unfold noneB; rw [(finB_iff hx).2 hf, hg]; rfl
      subst hz
      rw [hb]
      rcases hs with rfl | rfl
      · exact ⟨0, w, run_float_arith w .add _ .f64 _ _ 0 (by decide +kernel), gb_refl w, by decide, by decide +kernel⟩
      · exact ⟨0, w, run_float_arith w .add _ .f64 _ _ 0 (by decide +kernel), gb_refl w, by decide, by decide +kernel⟩
    · refine go (.inl hs) ?_
      have : finB x = false := by
        cases h : finB x with
        | false => rfl
        | true => exact absurd ((finB_iff hx).1 h) hf
      unfold noneB; rw [this]; rfl
  · refine go (.inr hz) ?_
    unfold noneB; rw [hg, Bool.and_false]; rfl
set_option maxHeartbeats 2000000 in
theorem nan19_ok (x : Nat) (hx : x < 18446744073709551616) (w : World) : Calls Tryz.prog 33 #[.float .f64 x] w fun e w' => ∃ z, e = .returned (.float .f64 z) ∧ w.grownBy w' none ∧ NanZ x z := by
  cases hg : gtF x 0 with
  | true =>
    have hg2 : (FloatKind.f64.format.order x 0 == some Ordering.gt) = true := hg
    go_enter Tryz.func33, Tryz.ntmps33
    go_wp2_with fail
    go_ret
    exact ⟨_, rfl, gb_refl _, by decide, .inl ⟨hg, rfl⟩⟩
  | false =>
    have hg2 : (FloatKind.f64.format.order x 0 == some Ordering.gt) = false := hg
    obtain ⟨z1, w1, h1, g1, k1⟩ := sub_self2 x hx w
    obtain ⟨z2, w2, h2, g2, k2⟩ := sub_self2 x hx w1
    obtain ⟨z3, w3, h3, g3, k3, k4⟩ := quo_self2 k1 k2 w2
    have G := Lib.hid (Lib.grownBy_trans (Lib.grownBy_trans g1 g2) g3)
    have HG := Lib.hid hg; have K3 := Lib.hid k3; have K4 := Lib.hid k4
    clear g1 g2 g3 k1 k2 k3 k4 hg hx
    go_enter Tryz.func33, Tryz.ntmps33
    go_wp2_with fail
    go_ret
    exact ⟨_, rfl, G.out, K4.out, .inr ⟨HG.out, K3.out⟩⟩
theorem wp_arith_ex {P : Program} {o : Oper} {a : Act} {w : World} {Q : Exit → Act → World → Prop} {K : Act → World → Prop} {op : BinOp} {t u : TypeId} {x y : Operand} (ho : o.op = .binOp op t x y u) (hg : ∀ xv yv, (eqGuard op t x y xv yv).run P w = .ok () w)
    {xv yv : Value} (hx : a.eval x = xv) (hy : a.eval y = yv) {X : Nat → World → Prop} (h : ∃ z w', (binOp op t xv yv).run P w = .ok (.float .f64 z) w' ∧ X z w') (hk : ∀ z w', X z w' → K (a.put o.dst (.float .f64 z)) w') : o.wp P a w K Q := by
  obtain ⟨z, w', hr, hX⟩ := h
  unfold Oper.wp execOp
  simp only [ho, hx, hy, Sem.run_bind, Sem.run_pure, hg, Result.andThen_ok, hr]
  exact hk _ _ hX
def optN : OptD := ⟨4602678819172646912, 4617315517961601024, 4607182418800017408⟩
theorem optN_wf : optN.wf := ⟨by decide, by decide, by decide⟩
theorem optN_right : rightO optN = true := by decide +kernel
theorem bOptN : Tryz.prog.built 43 [(0, .float .f64 4602678819172646912), (1, .float .f64 4617315517961601024), (2, .float .f64 4607182418800017408)] = some optN.cells.toArray := by kernel_rfl
theorem cnew_none {l : LightD} {v : Nat} (hv : v < 18446744073709551616) (h : nanF v = true) : cnewE l v optN = 154 := by
  unfold cnewE
  rw [if_neg (by rw [optN_right]; decide), if_pos (nan_fin hv h)]
set_option maxHeartbeats 8000000 in
theorem ClientNil_any (x : LtR) (l : LightD) (now : Nat) (kind i : Int) (nw : Nat) (key value : ByteArray) (sz : Int) (pa : Option Addr) (pn pc : Nat) (w0 : World) (hof : x.of w0.heap.size w0 l) (hwf : l.wf) (hch : l.header.chain.size ≤ 140737488351232) (hnow : now < 18446744073709551616) (hR : RowAt w0 1 0 (wCells rootsL)) :
    Calls Tryz.prog 7 #[.agg x.cells.toArray, .float .f64 now, .agg #[.int .i64 kind, .int .i64 i, .float .f64 nw, .string key, .string value, .int .i64 sz, .slice pa pn pc]] w0 fun e w' => e = .returned (.bool true) ∧ w0.grownBy w' none := by
  have O := OwF.start (fun _ => False) w0
  have XW := Lib.hid (hof.wf hwf)
  have CA := Lib.hid (fun w (g : w0.grownBy w none) => alive19_ok w (hR.grown g (by simp)))
  have KR := Lib.hid (fun w => cRoot_nil i w); have KU := Lib.hid (fun w => cUpdate_nil x now w); have KB := Lib.hid (fun w => cBlame_nil x w); have KH := Lib.hid cHeight_nil; have KC := Lib.hid cChain_nil; have KF := Lib.hid cFrozen_nil; have KY := Lib.hid cCopy_nil
  have KM := Lib.hid (fun w => cMember_nil i key value sz pa pn pc w); have KA := Lib.hid (fun w => cAbsent_nil i key sz pa pn pc w)
  have SB := Lib.hid (sub_self2 now hnow); have CNA := Lib.hid (nan19_ok now hnow); have CAD := Lib.hid (fun (s z : Nat) (h1 : SubSelf now s) (h2 : NanZ now z) (w : World) => add_self2 hnow h1 h2 w)
  have CNW := Lib.hid (fun (v : Nat) (hv : v < 18446744073709551616) (w : World) (g : w0.grownBy w none) => cNew_ok x l v optN w (hof.up g (Nat.le_refl _)) hwf hch hv optN_wf (hR.grown g (by simp)))
  have CRN := Lib.hid (fun (v : Nat) (hv : v < 18446744073709551616) (w : World) => RNan_ok v w hv)
  obtain ⟨nb, hnb⟩ : ∃ z, noneB now = z := ⟨_, rfl⟩
  rw [hnb] at CAD
  clear hof hwf hch hnow hR hnb
  go_enter Tryz.func7, Tryz.ntmps7
  go_upto_region 2 with (first | ((with_reducible refine @wpList_at _ _ _ _ _ _ _ (.box 31 (.tmp 0)) rfl ?_); refine @wpList_of_box _ _ _ _ _ _ _ _ _ _ 31 (.tmp 0) rfl x.cells rfl O rfl ?_; clear O; intro bl w O) | ((with_reducible refine @wpList_at _ _ _ _ _ _ _ (.box 58 (.tmp 2)) rfl ?_); refine @wpList_of_box _ _ _ _ _ _ _ _ _ _ 58 (.tmp 2) rfl [.int .i64 kind, .int .i64 i, .float .f64 nw, .string key, .string value, .int .i64 sz, .slice pa pn pc] rfl O rfl ?_; clear O; intro ba w O))
  go_wp2_with (first | ((with_reducible refine @wpList_at _ _ _ _ _ _ _ (.load 3 (.tmp 17)) rfl ?_); refine @wpList_of_cell _ _ _ _ _ _ _ _ _ _ 3 (.tmp 17) rfl O 0 ba 1 rfl _ _ rfl _ rfl _ Tryz.underlying3 rfl rfl ?_))
  refine (KR.out _).mono ?_
  rintro e w ⟨rfl, g⟩
  replace O := O.call g
  clear g
  go_upto_region 4 with (first | ((with_reducible refine @wpList_at _ _ _ _ _ _ _ (.alloc 23) rfl ?_); refine @wpList_of_alloc _ _ _ _ _ _ _ _ _ _ 23 rfl ZH ZH_info O rfl ?_; clear O; intro bh w O) | ((with_reducible refine @wpList_at _ _ _ _ _ _ _ (.store 23 (.tmp 8) (.tmp 20)) rfl ?_); refine @wpList_of_store _ _ _ _ _ _ _ _ _ _ 23 (.tmp 8) (.tmp 20) rfl O 0 bh rfl ZH ZH _ rfl rfl rfl ZH_one hash_szz rfl ?_; clear O; intro w O; simp only [List.set_cons_zero] at O) | (refine wpList_build_eq rfl 43 _ rfl [(0, .float .f64 4602678819172646912), (1, .float .f64 4617315517961601024), (2, .float .f64 4607182418800017408)] (by kernel_rfl) optN.cells bOptN ?_) | ((with_reducible refine @wpList_at _ _ _ _ _ _ _ (.alloc 43) rfl ?_); refine @wpList_of_alloc _ _ _ _ _ _ _ _ _ _ 43 rfl ZOpt ZOpt_info O rfl ?_; clear O; intro bo w O) | ((with_reducible refine @wpList_at _ _ _ _ _ _ _ (.store 43 (.tmp 10) (.tmp 22)) rfl ?_); refine @wpList_of_store _ _ _ _ _ _ _ _ _ _ 43 (.tmp 10) (.tmp 22) rfl O 0 bo rfl optN.cells ZOpt _ rfl rfl rfl (by intro v hv; simp [OptD.cells] at hv; rcases hv with rfl | rfl | rfl <;> rfl) sizeOpt rfl ?_; clear O; intro w O; simp only [List.set_cons_zero] at O))
  replace O := O.drew
  refine wp_region_J (rdf [(0, bl, 0, x.cells), (7, bo, 0, optN.cells)]) [3, 5, 6, 8] (by kernel_rfl) (RdA.cons (O.row_of (g := bl) (T := 31) (by simp)) (RdA.cons (O.row_of (g := bo) (T := 43) (by simp)) RdA.nil)) (fun hH => ?_)
  refine jr 0 0 ((.agg (x.cells).toArray)) rfl rfl (yieldsIf_load_mid (by rfl) 31 _ rfl bl 0 rfl x.cells _ (fun W h => h) Tryz.underlying31 rfl (sizeLt _ XW.out)) (Still.all hH) ?_
  simp only [Act.put, jq1, jq3, jq4, jq5, jq6]
  refine jp 1 ((.float .f64 now)) (Still.all hH) ?_
  simp only [Act.put, jq1, jq2, jq3, jq4, jq5, jq6]
  refine jp 2 ((.float .f64 now)) (Still.all hH) ?_
  simp only [Act.put, jq1, jq2, jq3, jq4, jq5, jq6]
  refine jp 4 ((.float .f64 now)) (Still.all hH) ?_
  simp only [Act.put, jq1, jq2, jq3, jq4, jq5, jq6]
  refine jr 1 7 ((.agg (optN.cells).toArray)) rfl rfl (yieldsIf_load_mid (by rfl) 43 _ rfl bo 0 rfl optN.cells _ (fun W h => h) Tryz.underlying43 rfl sizeOpt) (Still.all hH) ?_
  simp only [Act.put, jq1, jq2, jq3, jq4, jq5, jq6]
  refine wpAnyJ_ready (rs := [3, 5]) (by kernel_rfl) (by simp) ?_
  refine AllJ.keep rfl (by rfl) (by rfl) (fun K hK => ?_) (AllJ.keep rfl (by rfl) (by rfl) (fun K hK => ?_) (AllJ.nil))
  · refine wp_arith_ex rfl (fun _ _ => rfl) rfl rfl (SB.out _) ?_
    rintro s1 u ⟨g, hz1⟩
    replace O := O.call g
    simp only [Act.put, jq1, jq2, jq3, jq4, jq5, jq6]
    refine hK.out _ _ (RdA.grown hH g) ?_
    replace hH := RdA.grown hH g
    clear hK K
    clear g
    refine wpAnyJ_ready (rs := [5]) (by kernel_rfl) (by simp) ?_
    refine AllJ.keep rfl (by rfl) (by rfl) (fun K hK => ?_) (AllJ.nil)
    refine wp_call 33 _ _ (by rfl) (enters Tryz.func33 (by kernel_rfl) rfl) (by rfl) (CNA.out _) ?_
    rintro e u ⟨z1, rfl, g, hn1⟩
    refine ⟨_, rfl, ?_⟩
    replace O := O.call g
    simp only [Act.put, jq1, jq2, jq3, jq4, jq5, jq6]
    refine hK.out _ _ (RdA.grown hH g) ?_
    replace hH := RdA.grown hH g
    clear hK K
    clear g
    refine wpAnyJ_ready (rs := [6]) (by kernel_rfl) (by simp) ?_
    refine AllJ.keep rfl (by rfl) (by rfl) (fun K hK => ?_) (AllJ.nil)
    refine wp_arith_ex rfl (fun _ _ => rfl) rfl rfl (CAD.out s1 z1 hz1 hn1 _) ?_
    rintro v1 u ⟨g, hv1⟩
    replace O := O.call g
    simp only [Act.put, jq1, jq2, jq3, jq4, jq5, jq6]
    refine hK.out _ _ (RdA.grown hH g) ?_
    replace hH := RdA.grown hH g
    clear hK K
    clear g hz1 hn1
    refine wpAnyJ_ready (rs := [8]) (by kernel_rfl) (by simp) ?_
    refine AllJ.keep rfl (by rfl) (by rfl) (fun K hK => ?_) (AllJ.nil)
    refine wp_call 11 _ _ (by rfl) (enters Tryz.func11 (by kernel_rfl) rfl) (by rfl) (CNW.out v1 hv1.1 _ (O.tch.grown (fun _ h => h.elim))) ?_
    rintro e u ⟨g, pv, rfl, hpv⟩
    refine ⟨_, rfl, ?_⟩
    replace O := O.call g
    simp only [Act.put, jq1, jq2, jq3, jq4, jq5, jq6]
    refine hK.out _ _ (RdA.grown hH g) ?_
    replace hH := RdA.grown hH g
    clear hK K
    clear g
    refine jp 9 ((.tuple #[pv, .int .i64 (cnewE l v1 optN)])) (Still.all hH) ?_
    simp only [Act.put, jq1, jq2, jq3, jq4, jq5, jq6]
    refine jp 10 (pv) (Still.all hH) ?_
    simp only [Act.put, jq1, jq2, jq3, jq4, jq5, jq6]
    refine jp 11 ((.int .i64 (cnewE l v1 optN))) (Still.all hH) ?_
    simp only [Act.put, jq1, jq2, jq3, jq4, jq5, jq6]
    refine jp 12 (pv) (Still.all hH) ?_
    simp only [Act.put, jq1, jq2, jq3, jq4, jq5, jq6]
    refine jp 13 ((.int .i64 (cnewE l v1 optN))) (Still.all hH) ?_
    simp only [Act.put, jq1, jq2, jq3, jq4, jq5, jq6]
    refine wpAnyJ_done (by kernel_rfl) ?_ _
    obtain ⟨NE, hNE⟩ : ∃ z, cnewE l v1 optN = z := ⟨_, rfl⟩
    rw [hNE] at hpv ⊢
    have HNE := Lib.hid hNE; have HPV := Lib.hid hpv; have HV1 := Lib.hid hv1
    clear hNE hpv hv1 hH
    go_wp2_with (first | ((with_reducible refine @wpList_at _ _ _ _ _ _ _ (.load 31 (.tmp 3)) rfl ?_); refine @wpList_of_whole _ _ _ _ _ _ _ _ _ _ 31 (.tmp 3) rfl O 3 bl rfl x.cells _ rfl _ Tryz.underlying31 rfl (sizeLt _ XW.out) rfl ?_))
    refine (KU.out _).mono ?_
    rintro e w ⟨rfl, g⟩
    replace O := O.call g
    clear g
    go_wp2_with (first | ((with_reducible refine @wpList_at _ _ _ _ _ _ _ (.load 31 (.tmp 3)) rfl ?_); refine @wpList_of_whole _ _ _ _ _ _ _ _ _ _ 31 (.tmp 3) rfl O 3 bl rfl x.cells _ rfl _ Tryz.underlying31 rfl (sizeLt _ XW.out) rfl ?_))
    refine (KB.out _).mono ?_
    rintro e w ⟨rfl, g⟩
    replace O := O.call g
    clear g
    go_wp2_with fail
    refine (KH.out _).mono ?_
    rintro e w ⟨rfl, g⟩
    replace O := O.call g
    clear g
    go_wp2_with fail
    refine (KC.out _).mono ?_
    rintro e w ⟨rfl, g⟩
    replace O := O.call g
    clear g
    go_wp2_with fail
    refine (KF.out _).mono ?_
    rintro e w ⟨rfl, g⟩
    replace O := O.call g
    clear g
    go_wp2_with (first | ((with_reducible refine @wpList_at _ _ _ _ _ _ _ (.load 3 (.tmp 67)) rfl ?_); refine @wpList_of_cell _ _ _ _ _ _ _ _ _ _ 3 (.tmp 67) rfl O 2 ba 1 rfl _ _ rfl _ rfl _ Tryz.underlying3 rfl rfl ?_) | ((with_reducible refine @wpList_at _ _ _ _ _ _ _ (.load 3 (.tmp 80)) rfl ?_); refine @wpList_of_cell _ _ _ _ _ _ _ _ _ _ 3 (.tmp 80) rfl O 2 ba 1 rfl _ _ rfl _ rfl _ Tryz.underlying3 rfl rfl ?_) | ((with_reducible refine @wpList_at _ _ _ _ _ _ _ (.load 9 (.tmp 69)) rfl ?_); refine @wpList_of_cell _ _ _ _ _ _ _ _ _ _ 9 (.tmp 69) rfl O 2 ba 3 rfl _ _ rfl _ rfl _ Tryz.underlying9 rfl rfl ?_) | ((with_reducible refine @wpList_at _ _ _ _ _ _ _ (.load 9 (.tmp 82)) rfl ?_); refine @wpList_of_cell _ _ _ _ _ _ _ _ _ _ 9 (.tmp 82) rfl O 2 ba 3 rfl _ _ rfl _ rfl _ Tryz.underlying9 rfl rfl ?_) | ((with_reducible refine @wpList_at _ _ _ _ _ _ _ (.load 9 (.tmp 71)) rfl ?_); refine @wpList_of_cell _ _ _ _ _ _ _ _ _ _ 9 (.tmp 71) rfl O 2 ba 4 rfl _ _ rfl _ rfl _ Tryz.underlying9 rfl rfl ?_) | ((with_reducible refine @wpList_at _ _ _ _ _ _ _ (.load 46 (.tmp 73)) rfl ?_); refine @wpList_of_part _ _ _ _ _ _ _ _ _ _ 46 (.tmp 73) rfl O 2 ba 5 rfl _ _ rfl [.int .i64 sz, .slice pa pn pc] _ (fun h => part_of (k := 5) (n := 2) h rfl) Tryz.underlying46 rfl (by kernel_rfl) rfl ?_) | ((with_reducible refine @wpList_at _ _ _ _ _ _ _ (.load 46 (.tmp 84)) rfl ?_); refine @wpList_of_part _ _ _ _ _ _ _ _ _ _ 46 (.tmp 84) rfl O 2 ba 5 rfl _ _ rfl [.int .i64 sz, .slice pa pn pc] _ (fun h => part_of (k := 5) (n := 2) h rfl) Tryz.underlying46 rfl (by kernel_rfl) rfl ?_))
    refine (KM.out _).mono ?_
    rintro e w ⟨rfl, g⟩
    replace O := O.call g
    clear g
    go_wp2_with (first | ((with_reducible refine @wpList_at _ _ _ _ _ _ _ (.load 3 (.tmp 67)) rfl ?_); refine @wpList_of_cell _ _ _ _ _ _ _ _ _ _ 3 (.tmp 67) rfl O 2 ba 1 rfl _ _ rfl _ rfl _ Tryz.underlying3 rfl rfl ?_) | ((with_reducible refine @wpList_at _ _ _ _ _ _ _ (.load 3 (.tmp 80)) rfl ?_); refine @wpList_of_cell _ _ _ _ _ _ _ _ _ _ 3 (.tmp 80) rfl O 2 ba 1 rfl _ _ rfl _ rfl _ Tryz.underlying3 rfl rfl ?_) | ((with_reducible refine @wpList_at _ _ _ _ _ _ _ (.load 9 (.tmp 69)) rfl ?_); refine @wpList_of_cell _ _ _ _ _ _ _ _ _ _ 9 (.tmp 69) rfl O 2 ba 3 rfl _ _ rfl _ rfl _ Tryz.underlying9 rfl rfl ?_) | ((with_reducible refine @wpList_at _ _ _ _ _ _ _ (.load 9 (.tmp 82)) rfl ?_); refine @wpList_of_cell _ _ _ _ _ _ _ _ _ _ 9 (.tmp 82) rfl O 2 ba 3 rfl _ _ rfl _ rfl _ Tryz.underlying9 rfl rfl ?_) | ((with_reducible refine @wpList_at _ _ _ _ _ _ _ (.load 9 (.tmp 71)) rfl ?_); refine @wpList_of_cell _ _ _ _ _ _ _ _ _ _ 9 (.tmp 71) rfl O 2 ba 4 rfl _ _ rfl _ rfl _ Tryz.underlying9 rfl rfl ?_) | ((with_reducible refine @wpList_at _ _ _ _ _ _ _ (.load 46 (.tmp 73)) rfl ?_); refine @wpList_of_part _ _ _ _ _ _ _ _ _ _ 46 (.tmp 73) rfl O 2 ba 5 rfl _ _ rfl [.int .i64 sz, .slice pa pn pc] _ (fun h => part_of (k := 5) (n := 2) h rfl) Tryz.underlying46 rfl (by kernel_rfl) rfl ?_) | ((with_reducible refine @wpList_at _ _ _ _ _ _ _ (.load 46 (.tmp 84)) rfl ?_); refine @wpList_of_part _ _ _ _ _ _ _ _ _ _ 46 (.tmp 84) rfl O 2 ba 5 rfl _ _ rfl [.int .i64 sz, .slice pa pn pc] _ (fun h => part_of (k := 5) (n := 2) h rfl) Tryz.underlying46 rfl (by kernel_rfl) rfl ?_))
    refine (KA.out _).mono ?_
    rintro e w ⟨rfl, g⟩
    replace O := O.call g
    clear g
    go_wp2_with fail
    refine (KY.out _).mono ?_
    rintro e w ⟨rfl, g⟩
    replace O := O.call g
    clear g
    go_upto_region 6 with fail
    obtain ⟨s2, w9, hs2, g9, hz2⟩ := SB.out w
    replace O := O.call g9
    go_wp2_with fail
    refine (CNA.out _).mono ?_
    rintro e w ⟨z2, rfl, g, hn2⟩
    replace O := O.call g
    obtain ⟨v2, w8, hv2, g8, hb2, hc2⟩ := CAD.out s2 z2 hz2 hn2 w
    replace O := O.call g8
    have HB2 := Lib.hid hb2; have HC2 := Lib.hid hc2
    clear hs2 g9 hz2 g hn2 g8 hb2 hc2
    go_wp2_with fail
    refine (CRN.out v2 HB2.out _).mono ?_
    rintro e w' ⟨rfl, rfl⟩
    rw [HC2.out]
    go_wp2_with fail
    refine (CA.out _ (O.tch.grown (fun _ h => h.elim))).mono ?_
    rintro e w ⟨rfl, g⟩
    replace O := O.call g
    clear g
    cases nb with
    | false =>
      go_wp2_with fail
      go_ret
      exact ⟨rfl, O.tch.grown (fun _ h => h.elim)⟩
    | true =>
    have hE : NE = 154 := by rw [← HNE.out]; exact cnew_none HV1.out.1 HV1.out.2
    have hp : pv = .pointer none := by
      rcases HPV.out with ⟨_, h⟩ | ⟨h, _⟩
      · exact h
      · rw [hE] at h; exact absurd h (show ¬ (154 : Int) = 0 by decide)
    subst hE hp
    go_wp2_with fail
    go_ret
    exact ⟨rfl, O.tch.grown (fun _ h => h.elim)⟩
  · refine wp_call 33 _ _ (by rfl) (enters Tryz.func33 (by kernel_rfl) rfl) (by rfl) (CNA.out _) ?_
    rintro e u ⟨z1, rfl, g, hn1⟩
    refine ⟨_, rfl, ?_⟩
    replace O := O.call g
    simp only [Act.put, jq1, jq2, jq3, jq4, jq5, jq6]
    refine hK.out _ _ (RdA.grown hH g) ?_
    replace hH := RdA.grown hH g
    clear hK K
    clear g
    refine wpAnyJ_ready (rs := [3]) (by kernel_rfl) (by simp) ?_
    refine AllJ.keep rfl (by rfl) (by rfl) (fun K hK => ?_) (AllJ.nil)
    refine wp_arith_ex rfl (fun _ _ => rfl) rfl rfl (SB.out _) ?_
    rintro s1 u ⟨g, hz1⟩
    replace O := O.call g
    simp only [Act.put, jq1, jq2, jq3, jq4, jq5, jq6]
    refine hK.out _ _ (RdA.grown hH g) ?_
    replace hH := RdA.grown hH g
    clear hK K
    clear g
    refine wpAnyJ_ready (rs := [6]) (by kernel_rfl) (by simp) ?_
    refine AllJ.keep rfl (by rfl) (by rfl) (fun K hK => ?_) (AllJ.nil)
    refine wp_arith_ex rfl (fun _ _ => rfl) rfl rfl (CAD.out s1 z1 hz1 hn1 _) ?_
    rintro v1 u ⟨g, hv1⟩
    replace O := O.call g
    simp only [Act.put, jq1, jq2, jq3, jq4, jq5, jq6]
    refine hK.out _ _ (RdA.grown hH g) ?_
    replace hH := RdA.grown hH g
    clear hK K
    clear g hz1 hn1
    refine wpAnyJ_ready (rs := [8]) (by kernel_rfl) (by simp) ?_
    refine AllJ.keep rfl (by rfl) (by rfl) (fun K hK => ?_) (AllJ.nil)
    refine wp_call 11 _ _ (by rfl) (enters Tryz.func11 (by kernel_rfl) rfl) (by rfl) (CNW.out v1 hv1.1 _ (O.tch.grown (fun _ h => h.elim))) ?_
    rintro e u ⟨g, pv, rfl, hpv⟩
    refine ⟨_, rfl, ?_⟩
    replace O := O.call g
    simp only [Act.put, jq1, jq2, jq3, jq4, jq5, jq6]
    refine hK.out _ _ (RdA.grown hH g) ?_
    replace hH := RdA.grown hH g
    clear hK K
    clear g
    refine jp 9 ((.tuple #[pv, .int .i64 (cnewE l v1 optN)])) (Still.all hH) ?_
    simp only [Act.put, jq1, jq2, jq3, jq4, jq5, jq6]
    refine jp 10 (pv) (Still.all hH) ?_
    simp only [Act.put, jq1, jq2, jq3, jq4, jq5, jq6]
    refine jp 11 ((.int .i64 (cnewE l v1 optN))) (Still.all hH) ?_
    simp only [Act.put, jq1, jq2, jq3, jq4, jq5, jq6]
    refine jp 12 (pv) (Still.all hH) ?_
    simp only [Act.put, jq1, jq2, jq3, jq4, jq5, jq6]
    refine jp 13 ((.int .i64 (cnewE l v1 optN))) (Still.all hH) ?_
    simp only [Act.put, jq1, jq2, jq3, jq4, jq5, jq6]
    refine wpAnyJ_done (by kernel_rfl) ?_ _
    obtain ⟨NE, hNE⟩ : ∃ z, cnewE l v1 optN = z := ⟨_, rfl⟩
    rw [hNE] at hpv ⊢
    have HNE := Lib.hid hNE; have HPV := Lib.hid hpv; have HV1 := Lib.hid hv1
    clear hNE hpv hv1 hH
    go_wp2_with (first | ((with_reducible refine @wpList_at _ _ _ _ _ _ _ (.load 31 (.tmp 3)) rfl ?_); refine @wpList_of_whole _ _ _ _ _ _ _ _ _ _ 31 (.tmp 3) rfl O 3 bl rfl x.cells _ rfl _ Tryz.underlying31 rfl (sizeLt _ XW.out) rfl ?_))
    refine (KU.out _).mono ?_
    rintro e w ⟨rfl, g⟩
    replace O := O.call g
    clear g
    go_wp2_with (first | ((with_reducible refine @wpList_at _ _ _ _ _ _ _ (.load 31 (.tmp 3)) rfl ?_); refine @wpList_of_whole _ _ _ _ _ _ _ _ _ _ 31 (.tmp 3) rfl O 3 bl rfl x.cells _ rfl _ Tryz.underlying31 rfl (sizeLt _ XW.out) rfl ?_))
    refine (KB.out _).mono ?_
    rintro e w ⟨rfl, g⟩
    replace O := O.call g
    clear g
    go_wp2_with fail
    refine (KH.out _).mono ?_
    rintro e w ⟨rfl, g⟩
    replace O := O.call g
    clear g
    go_wp2_with fail
    refine (KC.out _).mono ?_
    rintro e w ⟨rfl, g⟩
    replace O := O.call g
    clear g
    go_wp2_with fail
    refine (KF.out _).mono ?_
    rintro e w ⟨rfl, g⟩
    replace O := O.call g
    clear g
    go_wp2_with (first | ((with_reducible refine @wpList_at _ _ _ _ _ _ _ (.load 3 (.tmp 67)) rfl ?_); refine @wpList_of_cell _ _ _ _ _ _ _ _ _ _ 3 (.tmp 67) rfl O 2 ba 1 rfl _ _ rfl _ rfl _ Tryz.underlying3 rfl rfl ?_) | ((with_reducible refine @wpList_at _ _ _ _ _ _ _ (.load 3 (.tmp 80)) rfl ?_); refine @wpList_of_cell _ _ _ _ _ _ _ _ _ _ 3 (.tmp 80) rfl O 2 ba 1 rfl _ _ rfl _ rfl _ Tryz.underlying3 rfl rfl ?_) | ((with_reducible refine @wpList_at _ _ _ _ _ _ _ (.load 9 (.tmp 69)) rfl ?_); refine @wpList_of_cell _ _ _ _ _ _ _ _ _ _ 9 (.tmp 69) rfl O 2 ba 3 rfl _ _ rfl _ rfl _ Tryz.underlying9 rfl rfl ?_) | ((with_reducible refine @wpList_at _ _ _ _ _ _ _ (.load 9 (.tmp 82)) rfl ?_); refine @wpList_of_cell _ _ _ _ _ _ _ _ _ _ 9 (.tmp 82) rfl O 2 ba 3 rfl _ _ rfl _ rfl _ Tryz.underlying9 rfl rfl ?_) | ((with_reducible refine @wpList_at _ _ _ _ _ _ _ (.load 9 (.tmp 71)) rfl ?_); refine @wpList_of_cell _ _ _ _ _ _ _ _ _ _ 9 (.tmp 71) rfl O 2 ba 4 rfl _ _ rfl _ rfl _ Tryz.underlying9 rfl rfl ?_) | ((with_reducible refine @wpList_at _ _ _ _ _ _ _ (.load 46 (.tmp 73)) rfl ?_); refine @wpList_of_part _ _ _ _ _ _ _ _ _ _ 46 (.tmp 73) rfl O 2 ba 5 rfl _ _ rfl [.int .i64 sz, .slice pa pn pc] _ (fun h => part_of (k := 5) (n := 2) h rfl) Tryz.underlying46 rfl (by kernel_rfl) rfl ?_) | ((with_reducible refine @wpList_at _ _ _ _ _ _ _ (.load 46 (.tmp 84)) rfl ?_); refine @wpList_of_part _ _ _ _ _ _ _ _ _ _ 46 (.tmp 84) rfl O 2 ba 5 rfl _ _ rfl [.int .i64 sz, .slice pa pn pc] _ (fun h => part_of (k := 5) (n := 2) h rfl) Tryz.underlying46 rfl (by kernel_rfl) rfl ?_))
    refine (KM.out _).mono ?_
    rintro e w ⟨rfl, g⟩
    replace O := O.call g
    clear g
    go_wp2_with (first | ((with_reducible refine @wpList_at _ _ _ _ _ _ _ (.load 3 (.tmp 67)) rfl ?_); refine @wpList_of_cell _ _ _ _ _ _ _ _ _ _ 3 (.tmp 67) rfl O 2 ba 1 rfl _ _ rfl _ rfl _ Tryz.underlying3 rfl rfl ?_) | ((with_reducible refine @wpList_at _ _ _ _ _ _ _ (.load 3 (.tmp 80)) rfl ?_); refine @wpList_of_cell _ _ _ _ _ _ _ _ _ _ 3 (.tmp 80) rfl O 2 ba 1 rfl _ _ rfl _ rfl _ Tryz.underlying3 rfl rfl ?_) | ((with_reducible refine @wpList_at _ _ _ _ _ _ _ (.load 9 (.tmp 69)) rfl ?_); refine @wpList_of_cell _ _ _ _ _ _ _ _ _ _ 9 (.tmp 69) rfl O 2 ba 3 rfl _ _ rfl _ rfl _ Tryz.underlying9 rfl rfl ?_) | ((with_reducible refine @wpList_at _ _ _ _ _ _ _ (.load 9 (.tmp 82)) rfl ?_); refine @wpList_of_cell _ _ _ _ _ _ _ _ _ _ 9 (.tmp 82) rfl O 2 ba 3 rfl _ _ rfl _ rfl _ Tryz.underlying9 rfl rfl ?_) | ((with_reducible refine @wpList_at _ _ _ _ _ _ _ (.load 9 (.tmp 71)) rfl ?_); refine @wpList_of_cell _ _ _ _ _ _ _ _ _ _ 9 (.tmp 71) rfl O 2 ba 4 rfl _ _ rfl _ rfl _ Tryz.underlying9 rfl rfl ?_) | ((with_reducible refine @wpList_at _ _ _ _ _ _ _ (.load 46 (.tmp 73)) rfl ?_); refine @wpList_of_part _ _ _ _ _ _ _ _ _ _ 46 (.tmp 73) rfl O 2 ba 5 rfl _ _ rfl [.int .i64 sz, .slice pa pn pc] _ (fun h => part_of (k := 5) (n := 2) h rfl) Tryz.underlying46 rfl (by kernel_rfl) rfl ?_) | ((with_reducible refine @wpList_at _ _ _ _ _ _ _ (.load 46 (.tmp 84)) rfl ?_); refine @wpList_of_part _ _ _ _ _ _ _ _ _ _ 46 (.tmp 84) rfl O 2 ba 5 rfl _ _ rfl [.int .i64 sz, .slice pa pn pc] _ (fun h => part_of (k := 5) (n := 2) h rfl) Tryz.underlying46 rfl (by kernel_rfl) rfl ?_))
    refine (KA.out _).mono ?_
    rintro e w ⟨rfl, g⟩
    replace O := O.call g
    clear g
    go_wp2_with fail
    refine (KY.out _).mono ?_
    rintro e w ⟨rfl, g⟩
    replace O := O.call g
    clear g
    go_upto_region 6 with fail
    obtain ⟨s2, w9, hs2, g9, hz2⟩ := SB.out w
    replace O := O.call g9
    go_wp2_with fail
    refine (CNA.out _).mono ?_
    rintro e w ⟨z2, rfl, g, hn2⟩
    replace O := O.call g
    obtain ⟨v2, w8, hv2, g8, hb2, hc2⟩ := CAD.out s2 z2 hz2 hn2 w
    replace O := O.call g8
    have HB2 := Lib.hid hb2; have HC2 := Lib.hid hc2
    clear hs2 g9 hz2 g hn2 g8 hb2 hc2
    go_wp2_with fail
    refine (CRN.out v2 HB2.out _).mono ?_
    rintro e w' ⟨rfl, rfl⟩
    rw [HC2.out]
    go_wp2_with fail
    refine (CA.out _ (O.tch.grown (fun _ h => h.elim))).mono ?_
    rintro e w ⟨rfl, g⟩
    replace O := O.call g
    clear g
    cases nb with
    | false =>
      go_wp2_with fail
      go_ret
      exact ⟨rfl, O.tch.grown (fun _ h => h.elim)⟩
    | true =>
    have hE : NE = 154 := by rw [← HNE.out]; exact cnew_none HV1.out.1 HV1.out.2
    have hp : pv = .pointer none := by
      rcases HPV.out with ⟨_, h⟩ | ⟨h, _⟩
      · exact h
      · rw [hE] at h; exact absurd h (show ¬ (154 : Int) = 0 by decide)
    subst hE hp
    go_wp2_with fail
    go_ret
    exact ⟨rfl, O.tch.grown (fun _ h => h.elim)⟩

end Go.Proofs.YtbhghlendbcejaaGreatDoor
