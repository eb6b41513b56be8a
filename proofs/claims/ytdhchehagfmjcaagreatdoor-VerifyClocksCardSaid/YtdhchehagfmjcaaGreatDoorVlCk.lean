/- Walk: the laws of a light client's step: strange clocks. -/
import Derived.Test.YtdhchehagfmjcaaGreatDoorVl
namespace Go.Proofs.YtdhchehagfmjcaaGreatDoor
open Go.RowKit
set_option maxRecDepth 100000

theorem row_fst {cs ds : List Value} {w : World} {g : Nat} (h : RowAt w g 0 (cs ++ ds)) : RowAt w g 0 cs := fun j v hj => by
  have hlt := (List.getElem?_eq_some_iff.1 hj).1
  exact h j v (by rw [List.getElem?_append_left hlt]; exact hj)
theorem row_snd {cs ds : List Value} {k : Nat} (hk : cs.length = k) {w : World} {g : Nat} (h : RowAt w g 0 (cs ++ ds)) : RowAt w g k ds := fun j v hj => by
  have := h (k + j) v (by rw [List.getElem?_append_right (by omega), hk, Nat.add_sub_cancel_left]; exact hj)
  rwa [Nat.zero_add] at this
/-- a difference to itself, of any word -/
theorem sub_self_any (x : Nat) (w : World) (hx : x < 18446744073709551616) : ∃ z w', (binOp .sub 33 (.float .f64 x) (.float .f64 x)).run Tryz.prog w = .ok (.float .f64 z) w' ∧ w.grownBy w' none ∧ (FloatKind.f64.format.order z 0 == some Ordering.eq) = finB x := by
  cases hn : nanF x with
  | false => exact sub_self_run x w hx hn
  | true =>
    have hs : floatBits .sub .f64 x x = none := by
      obtain ⟨s, fr, e⟩ := read_nan ((nanF_iff hx).1 hn)
      show FD.sub x x = none
      unfold Ieee.Format.sub
      rw [e]; rfl
    obtain ⟨z, h1, h2, h3⟩ := run_sub_none (P := Tryz.prog) (t := 33) hs w
    refine ⟨z, w.drew, h3, dr_grown w 1, ?_⟩
    rw [show FloatKind.f64.format.order z 0 = none from ord_nan_l h1, nan_fin hx hn]; rfl
/-- a difference of a number and any word -/
theorem sub_num_any (x y : Nat) (w : World) : ∃ z w', (binOp .sub 33 (.float .f64 x) (.float .f64 y)).run Tryz.prog w = .ok (.float .f64 z) w' ∧ w.grownBy w' none ∧ (finF x → finF y → z = subF x y) := by
  cases hs : floatBits .sub .f64 x y with
  | some z => exact ⟨z, w, run_float_arith w .sub _ .f64 x y z hs, gb_refl w, fun _ _ => by unfold subF; rw [hs]; rfl⟩
  | none =>
    obtain ⟨z, h1, h2, h3⟩ := run_sub_none (P := Tryz.prog) (t := 33) hs w
    refine ⟨z, w.drew, h3, dr_grown w 1, fun hx hy => ?_⟩
    obtain ⟨z', e, _⟩ := sub_fin hx hy
    rw [hs] at e; cases e
set_option maxHeartbeats 16000000 in
theorem VerifyClocks_any (x y : LtR) (a b : LightD) (m0 m1 : Nat) (o0 o1 : OptD) (w0 : World) (ha : a.wf) (hb : b.wf) (ox : x.of w0.heap.size w0 a) (oy : y.of w0.heap.size w0 b) (h0 : m0 < 18446744073709551616) (h1 : m1 < 18446744073709551616) (k0 : o0.wf) (k1 : o1.wf)
    (hca : a.header.chain.size ≤ 140737488351232) (hR : RowAt w0 1 0 (wCells rootsL)) :
    Calls Tryz.prog 6 #[.agg (x.cells ++ y.cells).toArray, .agg #[.float .f64 m0, .float .f64 m1], .agg (o0.cells ++ o1.cells).toArray] w0 fun e w' => e = .returned (.bool true) ∧ w0.grownBy w' none := by
  have O := Own.start w0
  have XW := Lib.hid (ox.wf ha); have YW := Lib.hid (oy.wf hb)
  have CA := Lib.hid (fun w (g : w0.grownBy w none) => alive15_ok w (hR.grown g (by simp)))
  have F1 := fun w => Few_ok x w XW.out; have F2 := fun w => Few_ok y w YW.out
  have CP := fun (nb : b.commit.seals.length ≤ 20) w (g : w0.grownBy w none) => Step_ok x y a b m0 o0 w ha hb (ox.up g (Nat.le_refl _)) (oy.up g (Nat.le_refl _)) h0 k0 (by omega) (by unfold maxLen; omega) (hR.grown g (by simp))
  have CQ := fun (nb : b.commit.seals.length ≤ 20) w (g : w0.grownBy w none) => Step_ok x y a b m1 o1 w ha hb (ox.up g (Nat.le_refl _)) (oy.up g (Nat.le_refl _)) h1 k1 (by omega) (by unfold maxLen; omega) (hR.grown g (by simp))
  have C0 := optRight_ok o0; have C1 := optRight_ok o1
  have hg := few_seals oy
  have G202 : (x.cells ++ y.cells)[202]? = some (.int .i64 b.header.time) := by
    rw [List.getElem?_append_right (by rw [x.cells_length XW.out]; decide), x.cells_length XW.out, ← oy.header]; rfl
  have hst : vstepL a b m0 o0 = 0 → finB m0 = true ∧ rightO o0 = true := fun h => ⟨(step_iff.1 h).fin, (step_iff.1 h).right⟩
  have hck : vstepL a b m0 o0 = 0 → rightO o1 = true → leF o1.level o0.level = true → geF o1.period o0.period = true → leF m1 m0 = true → finB m1 = true → leF (subF (i2f b.header.time) m1) o1.drift = true → vstepL a b m1 o1 = 0 :=
    fun h1' h2' h3' h4' h5' h6' h7' => clocks ha.header hb.header h1 h0 k0 k1 h1' h2' h3' h4' h5' h6' h7'
  have SS0 := Lib.hid (fun w => sub_self_any m0 w h0); have SS1 := Lib.hid (fun w => sub_self_any m1 w h1)
  have SN := fun w => sub_num_any (i2f b.header.time) m1 w
  have hfm : finB m1 = true → finF m1 := (finB_iff h1).1
  have hfi : finF (i2f b.header.time) := (i2f_fin _ ⟨hb.header.time.1, by have := hb.header.time.2; omega⟩).1
  obtain ⟨p, hp⟩ : ∃ z, fewLt x = z := ⟨_, rfl⟩
  obtain ⟨q, hq⟩ : ∃ z, fewLt y = z := ⟨_, rfl⟩
  obtain ⟨V1, hV1⟩ : ∃ z, vstepL a b m0 o0 = z := ⟨_, rfl⟩
  obtain ⟨V2, hV2⟩ : ∃ z, vstepL a b m1 o1 = z := ⟨_, rfl⟩
  obtain ⟨r0, hr0⟩ : ∃ z, rightO o0 = z := ⟨_, rfl⟩
  obtain ⟨r1, hr1⟩ : ∃ z, rightO o1 = z := ⟨_, rfl⟩
  obtain ⟨f0, hf0⟩ : ∃ z, finB m0 = z := ⟨_, rfl⟩
  obtain ⟨f1, hf1⟩ : ∃ z, finB m1 = z := ⟨_, rfl⟩
  obtain ⟨W1, hW1⟩ : ∃ z, leF o1.level o0.level = z := ⟨_, rfl⟩
  obtain ⟨W2, hW2⟩ : ∃ z, geF o1.period o0.period = z := ⟨_, rfl⟩
  obtain ⟨W3, hW3⟩ : ∃ z, geF o1.drift o0.drift = z := ⟨_, rfl⟩
  obtain ⟨LE, hLE⟩ : ∃ z, leF m1 m0 = z := ⟨_, rfl⟩
  obtain ⟨T, hT⟩ : ∃ z, b.header.time = z := ⟨_, rfl⟩
  rw [hT] at G202 SN hck hfi
  rw [hp] at F1; rw [hq] at F2 hg; rw [hV1] at CP hst hck; rw [hV2] at CQ hck; rw [hr0] at C0 hst; rw [hr1] at C1 hck; rw [hf0] at SS0 hst; rw [hf1] at SS1 hck hfm; rw [hW1, hW2, hLE] at hck
  obtain ⟨A, hA⟩ : ∃ z, (V1 == 0) = z := ⟨_, rfl⟩
  obtain ⟨B, hB⟩ : ∃ z, (V2 == 0) = z := ⟨_, rfl⟩
  have ST := Lib.hid (fun (e : A = true) => hst (by rw [e] at hA; simpa using hA))
  have CK := Lib.hid (fun (e : A = true) h1 h2 h3 h4 h5 h6 => (show B = true by rw [← hB, hck (by rw [e] at hA; simpa using hA) h1 h2 h3 h4 h5 h6]; rfl))
  replace hfm := Lib.hid hfm; replace hfi := Lib.hid hfi; replace SN := Lib.hid SN
  unfold leF ordF at hW1 hLE
  unfold geF ordF at hW2 hW3
  have HW1 := Lib.hid hW1; have HW2 := Lib.hid hW2; have HW3 := Lib.hid hW3; have HLE := Lib.hid hLE; have HA := Lib.hid hA; have HB := Lib.hid hB
  replace G202 := Lib.hid G202
  replace F1 := Lib.hid F1; replace F2 := Lib.hid F2; replace CP := Lib.hid CP; replace CQ := Lib.hid CQ; replace C0 := Lib.hid C0; replace C1 := Lib.hid C1; replace hg := Lib.hid hg
  clear hp hq hV1 hV2 hr0 hr1 hf0 hf1 hW1 hW2 hW3 hLE hA hB hT hst hck ha hb ox oy h0 h1 k0 k1 hca hR
  go_enter Tryz.func6, Tryz.ntmps6
  go_wp2_with (first | ((with_reducible refine @wpList_at _ _ _ _ _ _ _ (.box 32 (.tmp 0)) rfl ?_); refine @wpList_own_box _ _ _ _ _ _ _ _ _ 32 (.tmp 0) rfl (x.cells ++ y.cells) rfl O rfl ?_; clear O; intro bt w O) | ((with_reducible refine @wpList_at _ _ _ _ _ _ _ (.box 65 (.tmp 1)) rfl ?_); refine @wpList_own_box _ _ _ _ _ _ _ _ _ 65 (.tmp 1) rfl [.float .f64 m0, .float .f64 m1] rfl O rfl ?_; clear O; intro bf w O) | ((with_reducible refine @wpList_at _ _ _ _ _ _ _ (.box 66 (.tmp 2)) rfl ?_); refine @wpList_own_box _ _ _ _ _ _ _ _ _ 66 (.tmp 2) rfl (o0.cells ++ o1.cells) rfl O rfl ?_; clear O; intro bp w O) | ((with_reducible refine @wpList_at _ _ _ _ _ _ _ (.load 31 (.tmp 14)) rfl ?_); refine @wpList_own_part _ _ _ _ _ _ _ _ _ 31 (.tmp 14) rfl O 2 bt 0 rfl _ _ rfl x.cells _ (fun h => two_fst h) Tryz.underlying31 rfl (sizeLt _ XW.out) rfl ?_) | ((with_reducible refine @wpList_at _ _ _ _ _ _ _ (.load 31 (.tmp 17)) rfl ?_); refine @wpList_own_part _ _ _ _ _ _ _ _ _ 31 (.tmp 17) rfl O 2 bt 200 rfl _ _ rfl y.cells _ (fun h => two_snd XW.out h) Tryz.underlying31 rfl (sizeLt _ YW.out) rfl ?_))
  refine (F1.out _).mono ?_
  rintro e w ⟨rfl, g⟩
  replace O := O.call g
  clear g
  go_wp2_with (first | ((with_reducible refine @wpList_at _ _ _ _ _ _ _ (.box 32 (.tmp 0)) rfl ?_); refine @wpList_own_box _ _ _ _ _ _ _ _ _ 32 (.tmp 0) rfl (x.cells ++ y.cells) rfl O rfl ?_; clear O; intro bt w O) | ((with_reducible refine @wpList_at _ _ _ _ _ _ _ (.box 65 (.tmp 1)) rfl ?_); refine @wpList_own_box _ _ _ _ _ _ _ _ _ 65 (.tmp 1) rfl [.float .f64 m0, .float .f64 m1] rfl O rfl ?_; clear O; intro bf w O) | ((with_reducible refine @wpList_at _ _ _ _ _ _ _ (.box 66 (.tmp 2)) rfl ?_); refine @wpList_own_box _ _ _ _ _ _ _ _ _ 66 (.tmp 2) rfl (o0.cells ++ o1.cells) rfl O rfl ?_; clear O; intro bp w O) | ((with_reducible refine @wpList_at _ _ _ _ _ _ _ (.load 31 (.tmp 14)) rfl ?_); refine @wpList_own_part _ _ _ _ _ _ _ _ _ 31 (.tmp 14) rfl O 2 bt 0 rfl _ _ rfl x.cells _ (fun h => two_fst h) Tryz.underlying31 rfl (sizeLt _ XW.out) rfl ?_) | ((with_reducible refine @wpList_at _ _ _ _ _ _ _ (.load 31 (.tmp 17)) rfl ?_); refine @wpList_own_part _ _ _ _ _ _ _ _ _ 31 (.tmp 17) rfl O 2 bt 200 rfl _ _ rfl y.cells _ (fun h => two_snd XW.out h) Tryz.underlying31 rfl (sizeLt _ YW.out) rfl ?_))
  refine (F2.out _).mono ?_
  rintro e w ⟨rfl, g⟩
  replace O := O.call g
  clear g
  cases p with
  | false =>
    go_wp2_with (first | ((with_reducible refine @wpList_at _ _ _ _ _ _ _ (.box 32 (.tmp 0)) rfl ?_); refine @wpList_own_box _ _ _ _ _ _ _ _ _ 32 (.tmp 0) rfl (x.cells ++ y.cells) rfl O rfl ?_; clear O; intro bt w O) | ((with_reducible refine @wpList_at _ _ _ _ _ _ _ (.box 65 (.tmp 1)) rfl ?_); refine @wpList_own_box _ _ _ _ _ _ _ _ _ 65 (.tmp 1) rfl [.float .f64 m0, .float .f64 m1] rfl O rfl ?_; clear O; intro bf w O) | ((with_reducible refine @wpList_at _ _ _ _ _ _ _ (.box 66 (.tmp 2)) rfl ?_); refine @wpList_own_box _ _ _ _ _ _ _ _ _ 66 (.tmp 2) rfl (o0.cells ++ o1.cells) rfl O rfl ?_; clear O; intro bp w O) | ((with_reducible refine @wpList_at _ _ _ _ _ _ _ (.load 31 (.tmp 14)) rfl ?_); refine @wpList_own_part _ _ _ _ _ _ _ _ _ 31 (.tmp 14) rfl O 2 bt 0 rfl _ _ rfl x.cells _ (fun h => two_fst h) Tryz.underlying31 rfl (sizeLt _ XW.out) rfl ?_) | ((with_reducible refine @wpList_at _ _ _ _ _ _ _ (.load 31 (.tmp 17)) rfl ?_); refine @wpList_own_part _ _ _ _ _ _ _ _ _ 31 (.tmp 17) rfl O 2 bt 200 rfl _ _ rfl y.cells _ (fun h => two_snd XW.out h) Tryz.underlying31 rfl (sizeLt _ YW.out) rfl ?_))
    refine (CA.out _ O.grown).mono ?_
    rintro e w ⟨rfl, g⟩
    replace O := O.call g
    clear g
    go_wp2_with (first | ((with_reducible refine @wpList_at _ _ _ _ _ _ _ (.box 32 (.tmp 0)) rfl ?_); refine @wpList_own_box _ _ _ _ _ _ _ _ _ 32 (.tmp 0) rfl (x.cells ++ y.cells) rfl O rfl ?_; clear O; intro bt w O) | ((with_reducible refine @wpList_at _ _ _ _ _ _ _ (.box 65 (.tmp 1)) rfl ?_); refine @wpList_own_box _ _ _ _ _ _ _ _ _ 65 (.tmp 1) rfl [.float .f64 m0, .float .f64 m1] rfl O rfl ?_; clear O; intro bf w O) | ((with_reducible refine @wpList_at _ _ _ _ _ _ _ (.box 66 (.tmp 2)) rfl ?_); refine @wpList_own_box _ _ _ _ _ _ _ _ _ 66 (.tmp 2) rfl (o0.cells ++ o1.cells) rfl O rfl ?_; clear O; intro bp w O) | ((with_reducible refine @wpList_at _ _ _ _ _ _ _ (.load 31 (.tmp 14)) rfl ?_); refine @wpList_own_part _ _ _ _ _ _ _ _ _ 31 (.tmp 14) rfl O 2 bt 0 rfl _ _ rfl x.cells _ (fun h => two_fst h) Tryz.underlying31 rfl (sizeLt _ XW.out) rfl ?_) | ((with_reducible refine @wpList_at _ _ _ _ _ _ _ (.load 31 (.tmp 17)) rfl ?_); refine @wpList_own_part _ _ _ _ _ _ _ _ _ 31 (.tmp 17) rfl O 2 bt 200 rfl _ _ rfl y.cells _ (fun h => two_snd XW.out h) Tryz.underlying31 rfl (sizeLt _ YW.out) rfl ?_))
    go_ret
    exact ⟨rfl, O.grown⟩
  | true =>
  cases q with
  | false =>
    go_wp2_with (first | ((with_reducible refine @wpList_at _ _ _ _ _ _ _ (.box 32 (.tmp 0)) rfl ?_); refine @wpList_own_box _ _ _ _ _ _ _ _ _ 32 (.tmp 0) rfl (x.cells ++ y.cells) rfl O rfl ?_; clear O; intro bt w O) | ((with_reducible refine @wpList_at _ _ _ _ _ _ _ (.box 65 (.tmp 1)) rfl ?_); refine @wpList_own_box _ _ _ _ _ _ _ _ _ 65 (.tmp 1) rfl [.float .f64 m0, .float .f64 m1] rfl O rfl ?_; clear O; intro bf w O) | ((with_reducible refine @wpList_at _ _ _ _ _ _ _ (.box 66 (.tmp 2)) rfl ?_); refine @wpList_own_box _ _ _ _ _ _ _ _ _ 66 (.tmp 2) rfl (o0.cells ++ o1.cells) rfl O rfl ?_; clear O; intro bp w O) | ((with_reducible refine @wpList_at _ _ _ _ _ _ _ (.load 31 (.tmp 14)) rfl ?_); refine @wpList_own_part _ _ _ _ _ _ _ _ _ 31 (.tmp 14) rfl O 2 bt 0 rfl _ _ rfl x.cells _ (fun h => two_fst h) Tryz.underlying31 rfl (sizeLt _ XW.out) rfl ?_) | ((with_reducible refine @wpList_at _ _ _ _ _ _ _ (.load 31 (.tmp 17)) rfl ?_); refine @wpList_own_part _ _ _ _ _ _ _ _ _ 31 (.tmp 17) rfl O 2 bt 200 rfl _ _ rfl y.cells _ (fun h => two_snd XW.out h) Tryz.underlying31 rfl (sizeLt _ YW.out) rfl ?_))
    refine (CA.out _ O.grown).mono ?_
    rintro e w ⟨rfl, g⟩
    replace O := O.call g
    clear g
    go_wp2_with (first | ((with_reducible refine @wpList_at _ _ _ _ _ _ _ (.box 32 (.tmp 0)) rfl ?_); refine @wpList_own_box _ _ _ _ _ _ _ _ _ 32 (.tmp 0) rfl (x.cells ++ y.cells) rfl O rfl ?_; clear O; intro bt w O) | ((with_reducible refine @wpList_at _ _ _ _ _ _ _ (.box 65 (.tmp 1)) rfl ?_); refine @wpList_own_box _ _ _ _ _ _ _ _ _ 65 (.tmp 1) rfl [.float .f64 m0, .float .f64 m1] rfl O rfl ?_; clear O; intro bf w O) | ((with_reducible refine @wpList_at _ _ _ _ _ _ _ (.box 66 (.tmp 2)) rfl ?_); refine @wpList_own_box _ _ _ _ _ _ _ _ _ 66 (.tmp 2) rfl (o0.cells ++ o1.cells) rfl O rfl ?_; clear O; intro bp w O) | ((with_reducible refine @wpList_at _ _ _ _ _ _ _ (.load 31 (.tmp 14)) rfl ?_); refine @wpList_own_part _ _ _ _ _ _ _ _ _ 31 (.tmp 14) rfl O 2 bt 0 rfl _ _ rfl x.cells _ (fun h => two_fst h) Tryz.underlying31 rfl (sizeLt _ XW.out) rfl ?_) | ((with_reducible refine @wpList_at _ _ _ _ _ _ _ (.load 31 (.tmp 17)) rfl ?_); refine @wpList_own_part _ _ _ _ _ _ _ _ _ 31 (.tmp 17) rfl O 2 bt 200 rfl _ _ rfl y.cells _ (fun h => two_snd XW.out h) Tryz.underlying31 rfl (sizeLt _ YW.out) rfl ?_))
    go_ret
    exact ⟨rfl, O.grown⟩
  | true =>
  have nb := Lib.hid (hg.out (by trivial))
  go_wp2_with (first | ((with_reducible refine @wpList_at _ _ _ _ _ _ _ (.load 31 (.tmp 27)) rfl ?_); refine @wpList_own_part _ _ _ _ _ _ _ _ _ 31 (.tmp 27) rfl O 2 bt 0 rfl _ _ rfl x.cells _ (fun h => two_fst h) Tryz.underlying31 rfl (sizeLt _ XW.out) rfl ?_) | ((with_reducible refine @wpList_at _ _ _ _ _ _ _ (.load 31 (.tmp 29)) rfl ?_); refine @wpList_own_part _ _ _ _ _ _ _ _ _ 31 (.tmp 29) rfl O 2 bt 200 rfl _ _ rfl y.cells _ (fun h => two_snd XW.out h) Tryz.underlying31 rfl (sizeLt _ YW.out) rfl ?_) | ((with_reducible refine @wpList_at _ _ _ _ _ _ _ (.load 33 (.tmp 31)) rfl ?_); refine @wpList_own_cell _ _ _ _ _ _ _ _ _ 33 (.tmp 31) rfl O 1 bf 0 rfl _ _ rfl _ rfl _ Tryz.underlying33 rfl rfl ?_) | ((with_reducible refine @wpList_at _ _ _ _ _ _ _ (.load 35 (.tmp 33)) rfl ?_); refine @wpList_own_part _ _ _ _ _ _ _ _ _ 35 (.tmp 33) rfl O 0 bp 0 rfl _ _ rfl o0.cells _ (fun h => row_fst h) Tryz.underlying35 rfl sizeOpt rfl ?_))
  refine (CP.out nb.out _ O.grown).mono ?_
  rintro e w ⟨rfl, g⟩
  replace O := O.call g
  clear g
  have hA := HA.out
  go_wp2_with (first | ((with_reducible refine @wpList_at _ _ _ _ _ _ _ (.load 31 (.tmp 37)) rfl ?_); refine @wpList_own_part _ _ _ _ _ _ _ _ _ 31 (.tmp 37) rfl O 2 bt 0 rfl _ _ rfl x.cells _ (fun h => two_fst h) Tryz.underlying31 rfl (sizeLt _ XW.out) rfl ?_) | ((with_reducible refine @wpList_at _ _ _ _ _ _ _ (.load 31 (.tmp 39)) rfl ?_); refine @wpList_own_part _ _ _ _ _ _ _ _ _ 31 (.tmp 39) rfl O 2 bt 200 rfl _ _ rfl y.cells _ (fun h => two_snd XW.out h) Tryz.underlying31 rfl (sizeLt _ YW.out) rfl ?_) | ((with_reducible refine @wpList_at _ _ _ _ _ _ _ (.load 33 (.tmp 41)) rfl ?_); refine @wpList_own_cell _ _ _ _ _ _ _ _ _ 33 (.tmp 41) rfl O 1 bf 1 rfl _ _ rfl _ rfl _ Tryz.underlying33 rfl rfl ?_) | ((with_reducible refine @wpList_at _ _ _ _ _ _ _ (.load 35 (.tmp 43)) rfl ?_); refine @wpList_own_part _ _ _ _ _ _ _ _ _ 35 (.tmp 43) rfl O 0 bp 3 rfl _ _ rfl o1.cells _ (fun h => row_snd (k := 3) rfl h) Tryz.underlying35 rfl sizeOpt rfl ?_))
  refine (CQ.out nb.out _ O.grown).mono ?_
  rintro e w ⟨rfl, g⟩
  replace O := O.call g
  clear g
  have hB := HB.out
  go_upto_region 7 with (fail)
  go_cut [11] from 47 (fun s11 w' => s11 = .bool (!f0 || !r0) ∧ Own w0 w' [(bp, o0.cells ++ o1.cells, 66), (bf, [.float .f64 m0, .float .f64 m1], 65), (bt, x.cells ++ y.cells, 32)])
  case first =>
    obtain ⟨z, w2, rs, g2, e2⟩ := SS0.out w
    have O2 := O.call g2
    clear g2
    cases f0 with
    | false =>
      have e4 : ¬ FloatKind.f64.format.order z 0 = some Ordering.eq := by simpa using e2
      clear e2
      go_wp2_with (first | ((with_reducible refine @wpList_at _ _ _ _ _ _ _ (.load 33 (.tmp 47)) rfl ?_); refine @wpList_own_cell _ _ _ _ _ _ _ _ _ 33 (.tmp 47) rfl O 1 bf 0 rfl _ _ rfl _ rfl _ Tryz.underlying33 rfl rfl ?_) | ((with_reducible refine @wpList_at _ _ _ _ _ _ _ (.load 33 (.tmp 49)) rfl ?_); refine @wpList_own_cell _ _ _ _ _ _ _ _ _ 33 (.tmp 49) rfl O 1 bf 0 rfl _ _ rfl _ rfl _ Tryz.underlying33 rfl rfl ?_) | ((with_reducible refine @wpList_at _ _ _ _ _ _ _ (.load 35 (.tmp 54)) rfl ?_); refine @wpList_own_part _ _ _ _ _ _ _ _ _ 35 (.tmp 54) rfl O2 0 bp 0 rfl _ _ rfl o0.cells _ (fun h => row_fst h) Tryz.underlying35 rfl sizeOpt rfl ?_))
      go_meet
      case rel => exact ⟨rfl, O2⟩
    | true =>
      have e4 : FloatKind.f64.format.order z 0 = some Ordering.eq := by simpa using e2
      clear e2
      go_wp2_with (first | ((with_reducible refine @wpList_at _ _ _ _ _ _ _ (.load 33 (.tmp 47)) rfl ?_); refine @wpList_own_cell _ _ _ _ _ _ _ _ _ 33 (.tmp 47) rfl O 1 bf 0 rfl _ _ rfl _ rfl _ Tryz.underlying33 rfl rfl ?_) | ((with_reducible refine @wpList_at _ _ _ _ _ _ _ (.load 33 (.tmp 49)) rfl ?_); refine @wpList_own_cell _ _ _ _ _ _ _ _ _ 33 (.tmp 49) rfl O 1 bf 0 rfl _ _ rfl _ rfl _ Tryz.underlying33 rfl rfl ?_) | ((with_reducible refine @wpList_at _ _ _ _ _ _ _ (.load 35 (.tmp 54)) rfl ?_); refine @wpList_own_part _ _ _ _ _ _ _ _ _ 35 (.tmp 54) rfl O2 0 bp 0 rfl _ _ rfl o0.cells _ (fun h => row_fst h) Tryz.underlying35 rfl sizeOpt rfl ?_))
      refine (C0.out _).mono ?_
      rintro e w ⟨rfl, g⟩
      replace O2 := O2.call g
      clear g
      go_wp2_with fail
      go_meet
      case rel => exact ⟨rfl, O2⟩
  obtain ⟨rfl, O⟩ := hcut
  cases A with
  | false =>
    go_upto_region 10 with (fail)
    go_cut [12] from 63 (fun s12 w' => s12 = .bool (W1 && (W2 && (W3 && r1))) ∧ Own w0 w' [(bp, o0.cells ++ o1.cells, 66), (bf, [.float .f64 m0, .float .f64 m1], 65), (bt, x.cells ++ y.cells, 32)])
    case first =>
      have h1 := HW1.out
      cases W1 with
      | false =>
        go_wp2_with (first | ((with_reducible refine @wpList_at _ _ _ _ _ _ _ (.load 33 (.tmp 64)) rfl ?_); refine @wpList_own_cell _ _ _ _ _ _ _ _ _ 33 (.tmp 64) rfl O 0 bp 3 rfl _ _ rfl _ rfl _ Tryz.underlying33 rfl rfl ?_) | ((with_reducible refine @wpList_at _ _ _ _ _ _ _ (.load 33 (.tmp 67)) rfl ?_); refine @wpList_own_cell _ _ _ _ _ _ _ _ _ 33 (.tmp 67) rfl O 0 bp 0 rfl _ _ rfl _ rfl _ Tryz.underlying33 rfl rfl ?_) | ((with_reducible refine @wpList_at _ _ _ _ _ _ _ (.load 33 (.tmp 72)) rfl ?_); refine @wpList_own_cell _ _ _ _ _ _ _ _ _ 33 (.tmp 72) rfl O 0 bp 4 rfl _ _ rfl _ rfl _ Tryz.underlying33 rfl rfl ?_) | ((with_reducible refine @wpList_at _ _ _ _ _ _ _ (.load 33 (.tmp 75)) rfl ?_); refine @wpList_own_cell _ _ _ _ _ _ _ _ _ 33 (.tmp 75) rfl O 0 bp 1 rfl _ _ rfl _ rfl _ Tryz.underlying33 rfl rfl ?_) | ((with_reducible refine @wpList_at _ _ _ _ _ _ _ (.load 33 (.tmp 81)) rfl ?_); refine @wpList_own_cell _ _ _ _ _ _ _ _ _ 33 (.tmp 81) rfl O 0 bp 5 rfl _ _ rfl _ rfl _ Tryz.underlying33 rfl rfl ?_) | ((with_reducible refine @wpList_at _ _ _ _ _ _ _ (.load 33 (.tmp 84)) rfl ?_); refine @wpList_own_cell _ _ _ _ _ _ _ _ _ 33 (.tmp 84) rfl O 0 bp 2 rfl _ _ rfl _ rfl _ Tryz.underlying33 rfl rfl ?_) | ((with_reducible refine @wpList_at _ _ _ _ _ _ _ (.load 35 (.tmp 89)) rfl ?_); refine @wpList_own_part _ _ _ _ _ _ _ _ _ 35 (.tmp 89) rfl O 0 bp 3 rfl _ _ rfl o1.cells _ (fun h => row_snd (k := 3) rfl h) Tryz.underlying35 rfl sizeOpt rfl ?_))
        go_meet
        case rel => exact ⟨rfl, O⟩
      | true =>
      have h2 := HW2.out
      cases W2 with
      | false =>
        go_wp2_with (first | ((with_reducible refine @wpList_at _ _ _ _ _ _ _ (.load 33 (.tmp 64)) rfl ?_); refine @wpList_own_cell _ _ _ _ _ _ _ _ _ 33 (.tmp 64) rfl O 0 bp 3 rfl _ _ rfl _ rfl _ Tryz.underlying33 rfl rfl ?_) | ((with_reducible refine @wpList_at _ _ _ _ _ _ _ (.load 33 (.tmp 67)) rfl ?_); refine @wpList_own_cell _ _ _ _ _ _ _ _ _ 33 (.tmp 67) rfl O 0 bp 0 rfl _ _ rfl _ rfl _ Tryz.underlying33 rfl rfl ?_) | ((with_reducible refine @wpList_at _ _ _ _ _ _ _ (.load 33 (.tmp 72)) rfl ?_); refine @wpList_own_cell _ _ _ _ _ _ _ _ _ 33 (.tmp 72) rfl O 0 bp 4 rfl _ _ rfl _ rfl _ Tryz.underlying33 rfl rfl ?_) | ((with_reducible refine @wpList_at _ _ _ _ _ _ _ (.load 33 (.tmp 75)) rfl ?_); refine @wpList_own_cell _ _ _ _ _ _ _ _ _ 33 (.tmp 75) rfl O 0 bp 1 rfl _ _ rfl _ rfl _ Tryz.underlying33 rfl rfl ?_) | ((with_reducible refine @wpList_at _ _ _ _ _ _ _ (.load 33 (.tmp 81)) rfl ?_); refine @wpList_own_cell _ _ _ _ _ _ _ _ _ 33 (.tmp 81) rfl O 0 bp 5 rfl _ _ rfl _ rfl _ Tryz.underlying33 rfl rfl ?_) | ((with_reducible refine @wpList_at _ _ _ _ _ _ _ (.load 33 (.tmp 84)) rfl ?_); refine @wpList_own_cell _ _ _ _ _ _ _ _ _ 33 (.tmp 84) rfl O 0 bp 2 rfl _ _ rfl _ rfl _ Tryz.underlying33 rfl rfl ?_) | ((with_reducible refine @wpList_at _ _ _ _ _ _ _ (.load 35 (.tmp 89)) rfl ?_); refine @wpList_own_part _ _ _ _ _ _ _ _ _ 35 (.tmp 89) rfl O 0 bp 3 rfl _ _ rfl o1.cells _ (fun h => row_snd (k := 3) rfl h) Tryz.underlying35 rfl sizeOpt rfl ?_))
        go_meet
        case rel => exact ⟨rfl, O⟩
      | true =>
      have h3 := HW3.out
      cases W3 with
      | false =>
        go_wp2_with (first | ((with_reducible refine @wpList_at _ _ _ _ _ _ _ (.load 33 (.tmp 64)) rfl ?_); refine @wpList_own_cell _ _ _ _ _ _ _ _ _ 33 (.tmp 64) rfl O 0 bp 3 rfl _ _ rfl _ rfl _ Tryz.underlying33 rfl rfl ?_) | ((with_reducible refine @wpList_at _ _ _ _ _ _ _ (.load 33 (.tmp 67)) rfl ?_); refine @wpList_own_cell _ _ _ _ _ _ _ _ _ 33 (.tmp 67) rfl O 0 bp 0 rfl _ _ rfl _ rfl _ Tryz.underlying33 rfl rfl ?_) | ((with_reducible refine @wpList_at _ _ _ _ _ _ _ (.load 33 (.tmp 72)) rfl ?_); refine @wpList_own_cell _ _ _ _ _ _ _ _ _ 33 (.tmp 72) rfl O 0 bp 4 rfl _ _ rfl _ rfl _ Tryz.underlying33 rfl rfl ?_) | ((with_reducible refine @wpList_at _ _ _ _ _ _ _ (.load 33 (.tmp 75)) rfl ?_); refine @wpList_own_cell _ _ _ _ _ _ _ _ _ 33 (.tmp 75) rfl O 0 bp 1 rfl _ _ rfl _ rfl _ Tryz.underlying33 rfl rfl ?_) | ((with_reducible refine @wpList_at _ _ _ _ _ _ _ (.load 33 (.tmp 81)) rfl ?_); refine @wpList_own_cell _ _ _ _ _ _ _ _ _ 33 (.tmp 81) rfl O 0 bp 5 rfl _ _ rfl _ rfl _ Tryz.underlying33 rfl rfl ?_) | ((with_reducible refine @wpList_at _ _ _ _ _ _ _ (.load 33 (.tmp 84)) rfl ?_); refine @wpList_own_cell _ _ _ _ _ _ _ _ _ 33 (.tmp 84) rfl O 0 bp 2 rfl _ _ rfl _ rfl _ Tryz.underlying33 rfl rfl ?_) | ((with_reducible refine @wpList_at _ _ _ _ _ _ _ (.load 35 (.tmp 89)) rfl ?_); refine @wpList_own_part _ _ _ _ _ _ _ _ _ 35 (.tmp 89) rfl O 0 bp 3 rfl _ _ rfl o1.cells _ (fun h => row_snd (k := 3) rfl h) Tryz.underlying35 rfl sizeOpt rfl ?_))
        go_meet
        case rel => exact ⟨rfl, O⟩
      | true =>
      go_wp2_with (first | ((with_reducible refine @wpList_at _ _ _ _ _ _ _ (.load 33 (.tmp 64)) rfl ?_); refine @wpList_own_cell _ _ _ _ _ _ _ _ _ 33 (.tmp 64) rfl O 0 bp 3 rfl _ _ rfl _ rfl _ Tryz.underlying33 rfl rfl ?_) | ((with_reducible refine @wpList_at _ _ _ _ _ _ _ (.load 33 (.tmp 67)) rfl ?_); refine @wpList_own_cell _ _ _ _ _ _ _ _ _ 33 (.tmp 67) rfl O 0 bp 0 rfl _ _ rfl _ rfl _ Tryz.underlying33 rfl rfl ?_) | ((with_reducible refine @wpList_at _ _ _ _ _ _ _ (.load 33 (.tmp 72)) rfl ?_); refine @wpList_own_cell _ _ _ _ _ _ _ _ _ 33 (.tmp 72) rfl O 0 bp 4 rfl _ _ rfl _ rfl _ Tryz.underlying33 rfl rfl ?_) | ((with_reducible refine @wpList_at _ _ _ _ _ _ _ (.load 33 (.tmp 75)) rfl ?_); refine @wpList_own_cell _ _ _ _ _ _ _ _ _ 33 (.tmp 75) rfl O 0 bp 1 rfl _ _ rfl _ rfl _ Tryz.underlying33 rfl rfl ?_) | ((with_reducible refine @wpList_at _ _ _ _ _ _ _ (.load 33 (.tmp 81)) rfl ?_); refine @wpList_own_cell _ _ _ _ _ _ _ _ _ 33 (.tmp 81) rfl O 0 bp 5 rfl _ _ rfl _ rfl _ Tryz.underlying33 rfl rfl ?_) | ((with_reducible refine @wpList_at _ _ _ _ _ _ _ (.load 33 (.tmp 84)) rfl ?_); refine @wpList_own_cell _ _ _ _ _ _ _ _ _ 33 (.tmp 84) rfl O 0 bp 2 rfl _ _ rfl _ rfl _ Tryz.underlying33 rfl rfl ?_) | ((with_reducible refine @wpList_at _ _ _ _ _ _ _ (.load 35 (.tmp 89)) rfl ?_); refine @wpList_own_part _ _ _ _ _ _ _ _ _ 35 (.tmp 89) rfl O 0 bp 3 rfl _ _ rfl o1.cells _ (fun h => row_snd (k := 3) rfl h) Tryz.underlying35 rfl sizeOpt rfl ?_))
      refine (C1.out _).mono ?_
      rintro e w ⟨rfl, g⟩
      replace O := O.call g
      clear g
      go_wp2_with fail
      go_meet
      case rel => exact ⟨rfl, O⟩
    obtain ⟨rfl, O⟩ := hcut
    obtain ⟨z, w2, rs, g2, hz⟩ := SN.out wc
    have O2 := O.call g2
    obtain ⟨NR, hNR⟩ : ∃ n, (FloatKind.f64.format.order z o1.drift == some Ordering.lt || FloatKind.f64.format.order z o1.drift == some Ordering.eq) = n := ⟨_, rfl⟩
    have HZ := Lib.hid hz; have HNR := Lib.hid hNR
    unfold i2f at rs
    clear g2 hz
    go_wp2_with (first | ((with_reducible refine @wpList_at _ _ _ _ _ _ _ (.load 3 (.tmp 95)) rfl ?_); refine @wpList_own_cell _ _ _ _ _ _ _ _ _ 3 (.tmp 95) rfl O 2 bt 202 rfl _ _ rfl _ G202.out _ Tryz.underlying3 rfl rfl ?_) | ((with_reducible refine @wpList_at _ _ _ _ _ _ _ (.load 33 (.tmp 98)) rfl ?_); refine @wpList_own_cell _ _ _ _ _ _ _ _ _ 33 (.tmp 98) rfl O 1 bf 1 rfl _ _ rfl _ rfl _ Tryz.underlying33 rfl rfl ?_) | ((with_reducible refine @wpList_at _ _ _ _ _ _ _ (.load 33 (.tmp 102)) rfl ?_); refine @wpList_own_cell _ _ _ _ _ _ _ _ _ 33 (.tmp 102) rfl O2 0 bp 5 rfl _ _ rfl _ rfl _ Tryz.underlying33 rfl rfl ?_) | ((with_reducible refine @wpList_at _ _ _ _ _ _ _ (.load 33 (.tmp 110)) rfl ?_); refine @wpList_own_cell _ _ _ _ _ _ _ _ _ 33 (.tmp 110) rfl O2 1 bf 1 rfl _ _ rfl _ rfl _ Tryz.underlying33 rfl rfl ?_) | ((with_reducible refine @wpList_at _ _ _ _ _ _ _ (.load 33 (.tmp 112)) rfl ?_); refine @wpList_own_cell _ _ _ _ _ _ _ _ _ 33 (.tmp 112) rfl O2 1 bf 0 rfl _ _ rfl _ rfl _ Tryz.underlying33 rfl rfl ?_) | ((with_reducible refine @wpList_at _ _ _ _ _ _ _ (.load 33 (.tmp 117)) rfl ?_); refine @wpList_own_cell _ _ _ _ _ _ _ _ _ 33 (.tmp 117) rfl O2 1 bf 1 rfl _ _ rfl _ rfl _ Tryz.underlying33 rfl rfl ?_) | ((with_reducible refine @wpList_at _ _ _ _ _ _ _ (.load 33 (.tmp 119)) rfl ?_); refine @wpList_own_cell _ _ _ _ _ _ _ _ _ 33 (.tmp 119) rfl O2 1 bf 1 rfl _ _ rfl _ rfl _ Tryz.underlying33 rfl rfl ?_))
    refine (CA.out _ O2.grown).mono ?_
    rintro e w ⟨rfl, g⟩
    replace O2 := O2.call g
    clear g
    go_wp2_with fail
    go_ret
    exact ⟨rfl, O2.grown⟩
  | true =>
  obtain ⟨e1, e2⟩ := ST.out (by trivial)
  subst e1 e2
  go_upto_region 10 with (fail)
  go_cut [12] from 63 (fun s12 w' => s12 = .bool (W1 && (W2 && (W3 && r1))) ∧ Own w0 w' [(bp, o0.cells ++ o1.cells, 66), (bf, [.float .f64 m0, .float .f64 m1], 65), (bt, x.cells ++ y.cells, 32)])
  case first =>
    have h1 := HW1.out
    cases W1 with
    | false =>
      go_wp2_with (first | ((with_reducible refine @wpList_at _ _ _ _ _ _ _ (.load 33 (.tmp 64)) rfl ?_); refine @wpList_own_cell _ _ _ _ _ _ _ _ _ 33 (.tmp 64) rfl O 0 bp 3 rfl _ _ rfl _ rfl _ Tryz.underlying33 rfl rfl ?_) | ((with_reducible refine @wpList_at _ _ _ _ _ _ _ (.load 33 (.tmp 67)) rfl ?_); refine @wpList_own_cell _ _ _ _ _ _ _ _ _ 33 (.tmp 67) rfl O 0 bp 0 rfl _ _ rfl _ rfl _ Tryz.underlying33 rfl rfl ?_) | ((with_reducible refine @wpList_at _ _ _ _ _ _ _ (.load 33 (.tmp 72)) rfl ?_); refine @wpList_own_cell _ _ _ _ _ _ _ _ _ 33 (.tmp 72) rfl O 0 bp 4 rfl _ _ rfl _ rfl _ Tryz.underlying33 rfl rfl ?_) | ((with_reducible refine @wpList_at _ _ _ _ _ _ _ (.load 33 (.tmp 75)) rfl ?_); refine @wpList_own_cell _ _ _ _ _ _ _ _ _ 33 (.tmp 75) rfl O 0 bp 1 rfl _ _ rfl _ rfl _ Tryz.underlying33 rfl rfl ?_) | ((with_reducible refine @wpList_at _ _ _ _ _ _ _ (.load 33 (.tmp 81)) rfl ?_); refine @wpList_own_cell _ _ _ _ _ _ _ _ _ 33 (.tmp 81) rfl O 0 bp 5 rfl _ _ rfl _ rfl _ Tryz.underlying33 rfl rfl ?_) | ((with_reducible refine @wpList_at _ _ _ _ _ _ _ (.load 33 (.tmp 84)) rfl ?_); refine @wpList_own_cell _ _ _ _ _ _ _ _ _ 33 (.tmp 84) rfl O 0 bp 2 rfl _ _ rfl _ rfl _ Tryz.underlying33 rfl rfl ?_) | ((with_reducible refine @wpList_at _ _ _ _ _ _ _ (.load 35 (.tmp 89)) rfl ?_); refine @wpList_own_part _ _ _ _ _ _ _ _ _ 35 (.tmp 89) rfl O 0 bp 3 rfl _ _ rfl o1.cells _ (fun h => row_snd (k := 3) rfl h) Tryz.underlying35 rfl sizeOpt rfl ?_))
      go_meet
      case rel => exact ⟨rfl, O⟩
    | true =>
    have h2 := HW2.out
    cases W2 with
    | false =>
      go_wp2_with (first | ((with_reducible refine @wpList_at _ _ _ _ _ _ _ (.load 33 (.tmp 64)) rfl ?_); refine @wpList_own_cell _ _ _ _ _ _ _ _ _ 33 (.tmp 64) rfl O 0 bp 3 rfl _ _ rfl _ rfl _ Tryz.underlying33 rfl rfl ?_) | ((with_reducible refine @wpList_at _ _ _ _ _ _ _ (.load 33 (.tmp 67)) rfl ?_); refine @wpList_own_cell _ _ _ _ _ _ _ _ _ 33 (.tmp 67) rfl O 0 bp 0 rfl _ _ rfl _ rfl _ Tryz.underlying33 rfl rfl ?_) | ((with_reducible refine @wpList_at _ _ _ _ _ _ _ (.load 33 (.tmp 72)) rfl ?_); refine @wpList_own_cell _ _ _ _ _ _ _ _ _ 33 (.tmp 72) rfl O 0 bp 4 rfl _ _ rfl _ rfl _ Tryz.underlying33 rfl rfl ?_) | ((with_reducible refine @wpList_at _ _ _ _ _ _ _ (.load 33 (.tmp 75)) rfl ?_); refine @wpList_own_cell _ _ _ _ _ _ _ _ _ 33 (.tmp 75) rfl O 0 bp 1 rfl _ _ rfl _ rfl _ Tryz.underlying33 rfl rfl ?_) | ((with_reducible refine @wpList_at _ _ _ _ _ _ _ (.load 33 (.tmp 81)) rfl ?_); refine @wpList_own_cell _ _ _ _ _ _ _ _ _ 33 (.tmp 81) rfl O 0 bp 5 rfl _ _ rfl _ rfl _ Tryz.underlying33 rfl rfl ?_) | ((with_reducible refine @wpList_at _ _ _ _ _ _ _ (.load 33 (.tmp 84)) rfl ?_); refine @wpList_own_cell _ _ _ _ _ _ _ _ _ 33 (.tmp 84) rfl O 0 bp 2 rfl _ _ rfl _ rfl _ Tryz.underlying33 rfl rfl ?_) | ((with_reducible refine @wpList_at _ _ _ _ _ _ _ (.load 35 (.tmp 89)) rfl ?_); refine @wpList_own_part _ _ _ _ _ _ _ _ _ 35 (.tmp 89) rfl O 0 bp 3 rfl _ _ rfl o1.cells _ (fun h => row_snd (k := 3) rfl h) Tryz.underlying35 rfl sizeOpt rfl ?_))
      go_meet
      case rel => exact ⟨rfl, O⟩
    | true =>
    have h3 := HW3.out
    cases W3 with
    | false =>
      go_wp2_with (first | ((with_reducible refine @wpList_at _ _ _ _ _ _ _ (.load 33 (.tmp 64)) rfl ?_); refine @wpList_own_cell _ _ _ _ _ _ _ _ _ 33 (.tmp 64) rfl O 0 bp 3 rfl _ _ rfl _ rfl _ Tryz.underlying33 rfl rfl ?_) | ((with_reducible refine @wpList_at _ _ _ _ _ _ _ (.load 33 (.tmp 67)) rfl ?_); refine @wpList_own_cell _ _ _ _ _ _ _ _ _ 33 (.tmp 67) rfl O 0 bp 0 rfl _ _ rfl _ rfl _ Tryz.underlying33 rfl rfl ?_) | ((with_reducible refine @wpList_at _ _ _ _ _ _ _ (.load 33 (.tmp 72)) rfl ?_); refine @wpList_own_cell _ _ _ _ _ _ _ _ _ 33 (.tmp 72) rfl O 0 bp 4 rfl _ _ rfl _ rfl _ Tryz.underlying33 rfl rfl ?_) | ((with_reducible refine @wpList_at _ _ _ _ _ _ _ (.load 33 (.tmp 75)) rfl ?_); refine @wpList_own_cell _ _ _ _ _ _ _ _ _ 33 (.tmp 75) rfl O 0 bp 1 rfl _ _ rfl _ rfl _ Tryz.underlying33 rfl rfl ?_) | ((with_reducible refine @wpList_at _ _ _ _ _ _ _ (.load 33 (.tmp 81)) rfl ?_); refine @wpList_own_cell _ _ _ _ _ _ _ _ _ 33 (.tmp 81) rfl O 0 bp 5 rfl _ _ rfl _ rfl _ Tryz.underlying33 rfl rfl ?_) | ((with_reducible refine @wpList_at _ _ _ _ _ _ _ (.load 33 (.tmp 84)) rfl ?_); refine @wpList_own_cell _ _ _ _ _ _ _ _ _ 33 (.tmp 84) rfl O 0 bp 2 rfl _ _ rfl _ rfl _ Tryz.underlying33 rfl rfl ?_) | ((with_reducible refine @wpList_at _ _ _ _ _ _ _ (.load 35 (.tmp 89)) rfl ?_); refine @wpList_own_part _ _ _ _ _ _ _ _ _ 35 (.tmp 89) rfl O 0 bp 3 rfl _ _ rfl o1.cells _ (fun h => row_snd (k := 3) rfl h) Tryz.underlying35 rfl sizeOpt rfl ?_))
      go_meet
      case rel => exact ⟨rfl, O⟩
    | true =>
    go_wp2_with (first | ((with_reducible refine @wpList_at _ _ _ _ _ _ _ (.load 33 (.tmp 64)) rfl ?_); refine @wpList_own_cell _ _ _ _ _ _ _ _ _ 33 (.tmp 64) rfl O 0 bp 3 rfl _ _ rfl _ rfl _ Tryz.underlying33 rfl rfl ?_) | ((with_reducible refine @wpList_at _ _ _ _ _ _ _ (.load 33 (.tmp 67)) rfl ?_); refine @wpList_own_cell _ _ _ _ _ _ _ _ _ 33 (.tmp 67) rfl O 0 bp 0 rfl _ _ rfl _ rfl _ Tryz.underlying33 rfl rfl ?_) | ((with_reducible refine @wpList_at _ _ _ _ _ _ _ (.load 33 (.tmp 72)) rfl ?_); refine @wpList_own_cell _ _ _ _ _ _ _ _ _ 33 (.tmp 72) rfl O 0 bp 4 rfl _ _ rfl _ rfl _ Tryz.underlying33 rfl rfl ?_) | ((with_reducible refine @wpList_at _ _ _ _ _ _ _ (.load 33 (.tmp 75)) rfl ?_); refine @wpList_own_cell _ _ _ _ _ _ _ _ _ 33 (.tmp 75) rfl O 0 bp 1 rfl _ _ rfl _ rfl _ Tryz.underlying33 rfl rfl ?_) | ((with_reducible refine @wpList_at _ _ _ _ _ _ _ (.load 33 (.tmp 81)) rfl ?_); refine @wpList_own_cell _ _ _ _ _ _ _ _ _ 33 (.tmp 81) rfl O 0 bp 5 rfl _ _ rfl _ rfl _ Tryz.underlying33 rfl rfl ?_) | ((with_reducible refine @wpList_at _ _ _ _ _ _ _ (.load 33 (.tmp 84)) rfl ?_); refine @wpList_own_cell _ _ _ _ _ _ _ _ _ 33 (.tmp 84) rfl O 0 bp 2 rfl _ _ rfl _ rfl _ Tryz.underlying33 rfl rfl ?_) | ((with_reducible refine @wpList_at _ _ _ _ _ _ _ (.load 35 (.tmp 89)) rfl ?_); refine @wpList_own_part _ _ _ _ _ _ _ _ _ 35 (.tmp 89) rfl O 0 bp 3 rfl _ _ rfl o1.cells _ (fun h => row_snd (k := 3) rfl h) Tryz.underlying35 rfl sizeOpt rfl ?_))
    refine (C1.out _).mono ?_
    rintro e w ⟨rfl, g⟩
    replace O := O.call g
    clear g
    go_wp2_with fail
    go_meet
    case rel => exact ⟨rfl, O⟩
  obtain ⟨rfl, O⟩ := hcut
  obtain ⟨z, w2, rs, g2, hz⟩ := SN.out wc
  have O2 := O.call g2
  obtain ⟨NR, hNR⟩ : ∃ n, (FloatKind.f64.format.order z o1.drift == some Ordering.lt || FloatKind.f64.format.order z o1.drift == some Ordering.eq) = n := ⟨_, rfl⟩
  have HZ := Lib.hid hz; have HNR := Lib.hid hNR
  unfold i2f at rs
  clear g2 hz
  obtain ⟨WI, hWI⟩ : ∃ z, (W1 && (W2 && (W3 && r1))) = z := ⟨_, rfl⟩
  rw [hWI]
  cases WI with
  | false =>
    clear hWI
    go_wp2_with (first | ((with_reducible refine @wpList_at _ _ _ _ _ _ _ (.load 3 (.tmp 95)) rfl ?_); refine @wpList_own_cell _ _ _ _ _ _ _ _ _ 3 (.tmp 95) rfl O 2 bt 202 rfl _ _ rfl _ G202.out _ Tryz.underlying3 rfl rfl ?_) | ((with_reducible refine @wpList_at _ _ _ _ _ _ _ (.load 33 (.tmp 98)) rfl ?_); refine @wpList_own_cell _ _ _ _ _ _ _ _ _ 33 (.tmp 98) rfl O 1 bf 1 rfl _ _ rfl _ rfl _ Tryz.underlying33 rfl rfl ?_) | ((with_reducible refine @wpList_at _ _ _ _ _ _ _ (.load 33 (.tmp 102)) rfl ?_); refine @wpList_own_cell _ _ _ _ _ _ _ _ _ 33 (.tmp 102) rfl O2 0 bp 5 rfl _ _ rfl _ rfl _ Tryz.underlying33 rfl rfl ?_) | ((with_reducible refine @wpList_at _ _ _ _ _ _ _ (.load 33 (.tmp 110)) rfl ?_); refine @wpList_own_cell _ _ _ _ _ _ _ _ _ 33 (.tmp 110) rfl O2 1 bf 1 rfl _ _ rfl _ rfl _ Tryz.underlying33 rfl rfl ?_) | ((with_reducible refine @wpList_at _ _ _ _ _ _ _ (.load 33 (.tmp 112)) rfl ?_); refine @wpList_own_cell _ _ _ _ _ _ _ _ _ 33 (.tmp 112) rfl O2 1 bf 0 rfl _ _ rfl _ rfl _ Tryz.underlying33 rfl rfl ?_) | ((with_reducible refine @wpList_at _ _ _ _ _ _ _ (.load 33 (.tmp 117)) rfl ?_); refine @wpList_own_cell _ _ _ _ _ _ _ _ _ 33 (.tmp 117) rfl O2 1 bf 1 rfl _ _ rfl _ rfl _ Tryz.underlying33 rfl rfl ?_) | ((with_reducible refine @wpList_at _ _ _ _ _ _ _ (.load 33 (.tmp 119)) rfl ?_); refine @wpList_own_cell _ _ _ _ _ _ _ _ _ 33 (.tmp 119) rfl O2 1 bf 1 rfl _ _ rfl _ rfl _ Tryz.underlying33 rfl rfl ?_))
    refine (CA.out _ O2.grown).mono ?_
    rintro e w ⟨rfl, g⟩
    replace O2 := O2.call g
    clear g
    go_wp2_with fail
    go_ret
    exact ⟨rfl, O2.grown⟩
  | true =>
  have HWI := Lib.hid hWI
  clear hWI
  have hLE := HLE.out
  cases LE with
  | false =>
    go_wp2_with (first | ((with_reducible refine @wpList_at _ _ _ _ _ _ _ (.load 3 (.tmp 95)) rfl ?_); refine @wpList_own_cell _ _ _ _ _ _ _ _ _ 3 (.tmp 95) rfl O 2 bt 202 rfl _ _ rfl _ G202.out _ Tryz.underlying3 rfl rfl ?_) | ((with_reducible refine @wpList_at _ _ _ _ _ _ _ (.load 33 (.tmp 98)) rfl ?_); refine @wpList_own_cell _ _ _ _ _ _ _ _ _ 33 (.tmp 98) rfl O 1 bf 1 rfl _ _ rfl _ rfl _ Tryz.underlying33 rfl rfl ?_) | ((with_reducible refine @wpList_at _ _ _ _ _ _ _ (.load 33 (.tmp 102)) rfl ?_); refine @wpList_own_cell _ _ _ _ _ _ _ _ _ 33 (.tmp 102) rfl O2 0 bp 5 rfl _ _ rfl _ rfl _ Tryz.underlying33 rfl rfl ?_) | ((with_reducible refine @wpList_at _ _ _ _ _ _ _ (.load 33 (.tmp 110)) rfl ?_); refine @wpList_own_cell _ _ _ _ _ _ _ _ _ 33 (.tmp 110) rfl O2 1 bf 1 rfl _ _ rfl _ rfl _ Tryz.underlying33 rfl rfl ?_) | ((with_reducible refine @wpList_at _ _ _ _ _ _ _ (.load 33 (.tmp 112)) rfl ?_); refine @wpList_own_cell _ _ _ _ _ _ _ _ _ 33 (.tmp 112) rfl O2 1 bf 0 rfl _ _ rfl _ rfl _ Tryz.underlying33 rfl rfl ?_) | ((with_reducible refine @wpList_at _ _ _ _ _ _ _ (.load 33 (.tmp 117)) rfl ?_); refine @wpList_own_cell _ _ _ _ _ _ _ _ _ 33 (.tmp 117) rfl O2 1 bf 1 rfl _ _ rfl _ rfl _ Tryz.underlying33 rfl rfl ?_) | ((with_reducible refine @wpList_at _ _ _ _ _ _ _ (.load 33 (.tmp 119)) rfl ?_); refine @wpList_own_cell _ _ _ _ _ _ _ _ _ 33 (.tmp 119) rfl O2 1 bf 1 rfl _ _ rfl _ rfl _ Tryz.underlying33 rfl rfl ?_))
    refine (CA.out _ O2.grown).mono ?_
    rintro e w ⟨rfl, g⟩
    replace O2 := O2.call g
    clear g
    go_wp2_with fail
    go_ret
    exact ⟨rfl, O2.grown⟩
  | true =>
  obtain ⟨zz, w3, rz, g3, e3⟩ := SS1.out w2
  have O3 := O2.call g3
  clear g3
  cases f1 with
  | false =>
    have e4 : ¬ FloatKind.f64.format.order zz 0 = some Ordering.eq := by simpa using e3
    clear e3
    go_wp2_with (first | ((with_reducible refine @wpList_at _ _ _ _ _ _ _ (.load 3 (.tmp 95)) rfl ?_); refine @wpList_own_cell _ _ _ _ _ _ _ _ _ 3 (.tmp 95) rfl O 2 bt 202 rfl _ _ rfl _ G202.out _ Tryz.underlying3 rfl rfl ?_) | ((with_reducible refine @wpList_at _ _ _ _ _ _ _ (.load 33 (.tmp 98)) rfl ?_); refine @wpList_own_cell _ _ _ _ _ _ _ _ _ 33 (.tmp 98) rfl O 1 bf 1 rfl _ _ rfl _ rfl _ Tryz.underlying33 rfl rfl ?_) | ((with_reducible refine @wpList_at _ _ _ _ _ _ _ (.load 33 (.tmp 102)) rfl ?_); refine @wpList_own_cell _ _ _ _ _ _ _ _ _ 33 (.tmp 102) rfl O2 0 bp 5 rfl _ _ rfl _ rfl _ Tryz.underlying33 rfl rfl ?_) | ((with_reducible refine @wpList_at _ _ _ _ _ _ _ (.load 33 (.tmp 110)) rfl ?_); refine @wpList_own_cell _ _ _ _ _ _ _ _ _ 33 (.tmp 110) rfl O2 1 bf 1 rfl _ _ rfl _ rfl _ Tryz.underlying33 rfl rfl ?_) | ((with_reducible refine @wpList_at _ _ _ _ _ _ _ (.load 33 (.tmp 112)) rfl ?_); refine @wpList_own_cell _ _ _ _ _ _ _ _ _ 33 (.tmp 112) rfl O2 1 bf 0 rfl _ _ rfl _ rfl _ Tryz.underlying33 rfl rfl ?_) | ((with_reducible refine @wpList_at _ _ _ _ _ _ _ (.load 33 (.tmp 117)) rfl ?_); refine @wpList_own_cell _ _ _ _ _ _ _ _ _ 33 (.tmp 117) rfl O2 1 bf 1 rfl _ _ rfl _ rfl _ Tryz.underlying33 rfl rfl ?_) | ((with_reducible refine @wpList_at _ _ _ _ _ _ _ (.load 33 (.tmp 119)) rfl ?_); refine @wpList_own_cell _ _ _ _ _ _ _ _ _ 33 (.tmp 119) rfl O2 1 bf 1 rfl _ _ rfl _ rfl _ Tryz.underlying33 rfl rfl ?_))
    refine (CA.out _ O3.grown).mono ?_
    rintro e w ⟨rfl, g⟩
    replace O3 := O3.call g
    clear g
    go_wp2_with fail
    go_ret
    exact ⟨rfl, O3.grown⟩
  | true =>
  have e4 : FloatKind.f64.format.order zz 0 = some Ordering.eq := by simpa using e3
  clear e3
  cases NR with
  | false =>
    go_wp2_with (first | ((with_reducible refine @wpList_at _ _ _ _ _ _ _ (.load 3 (.tmp 95)) rfl ?_); refine @wpList_own_cell _ _ _ _ _ _ _ _ _ 3 (.tmp 95) rfl O 2 bt 202 rfl _ _ rfl _ G202.out _ Tryz.underlying3 rfl rfl ?_) | ((with_reducible refine @wpList_at _ _ _ _ _ _ _ (.load 33 (.tmp 98)) rfl ?_); refine @wpList_own_cell _ _ _ _ _ _ _ _ _ 33 (.tmp 98) rfl O 1 bf 1 rfl _ _ rfl _ rfl _ Tryz.underlying33 rfl rfl ?_) | ((with_reducible refine @wpList_at _ _ _ _ _ _ _ (.load 33 (.tmp 102)) rfl ?_); refine @wpList_own_cell _ _ _ _ _ _ _ _ _ 33 (.tmp 102) rfl O2 0 bp 5 rfl _ _ rfl _ rfl _ Tryz.underlying33 rfl rfl ?_) | ((with_reducible refine @wpList_at _ _ _ _ _ _ _ (.load 33 (.tmp 110)) rfl ?_); refine @wpList_own_cell _ _ _ _ _ _ _ _ _ 33 (.tmp 110) rfl O2 1 bf 1 rfl _ _ rfl _ rfl _ Tryz.underlying33 rfl rfl ?_) | ((with_reducible refine @wpList_at _ _ _ _ _ _ _ (.load 33 (.tmp 112)) rfl ?_); refine @wpList_own_cell _ _ _ _ _ _ _ _ _ 33 (.tmp 112) rfl O2 1 bf 0 rfl _ _ rfl _ rfl _ Tryz.underlying33 rfl rfl ?_) | ((with_reducible refine @wpList_at _ _ _ _ _ _ _ (.load 33 (.tmp 117)) rfl ?_); refine @wpList_own_cell _ _ _ _ _ _ _ _ _ 33 (.tmp 117) rfl O2 1 bf 1 rfl _ _ rfl _ rfl _ Tryz.underlying33 rfl rfl ?_) | ((with_reducible refine @wpList_at _ _ _ _ _ _ _ (.load 33 (.tmp 119)) rfl ?_); refine @wpList_own_cell _ _ _ _ _ _ _ _ _ 33 (.tmp 119) rfl O2 1 bf 1 rfl _ _ rfl _ rfl _ Tryz.underlying33 rfl rfl ?_))
    refine (CA.out _ O3.grown).mono ?_
    rintro e w ⟨rfl, g⟩
    replace O3 := O3.call g
    clear g
    go_wp2_with fail
    go_ret
    exact ⟨rfl, O3.grown⟩
  | true =>
  have hw := HWI.out
  simp only [Bool.and_eq_true] at hw
  have hz := HZ.out hfi.out (hfm.out (by trivial))
  have hB2 : B = true := CK.out (by trivial) hw.2.2.2 hw.1 hw.2.1 (by trivial) (by trivial) (by rw [← hz]; exact HNR.out)
  subst hB2
  clear hw hz
  go_wp2_with (first | ((with_reducible refine @wpList_at _ _ _ _ _ _ _ (.load 3 (.tmp 95)) rfl ?_); refine @wpList_own_cell _ _ _ _ _ _ _ _ _ 3 (.tmp 95) rfl O 2 bt 202 rfl _ _ rfl _ G202.out _ Tryz.underlying3 rfl rfl ?_) | ((with_reducible refine @wpList_at _ _ _ _ _ _ _ (.load 33 (.tmp 98)) rfl ?_); refine @wpList_own_cell _ _ _ _ _ _ _ _ _ 33 (.tmp 98) rfl O 1 bf 1 rfl _ _ rfl _ rfl _ Tryz.underlying33 rfl rfl ?_) | ((with_reducible refine @wpList_at _ _ _ _ _ _ _ (.load 33 (.tmp 102)) rfl ?_); refine @wpList_own_cell _ _ _ _ _ _ _ _ _ 33 (.tmp 102) rfl O2 0 bp 5 rfl _ _ rfl _ rfl _ Tryz.underlying33 rfl rfl ?_) | ((with_reducible refine @wpList_at _ _ _ _ _ _ _ (.load 33 (.tmp 110)) rfl ?_); refine @wpList_own_cell _ _ _ _ _ _ _ _ _ 33 (.tmp 110) rfl O2 1 bf 1 rfl _ _ rfl _ rfl _ Tryz.underlying33 rfl rfl ?_) | ((with_reducible refine @wpList_at _ _ _ _ _ _ _ (.load 33 (.tmp 112)) rfl ?_); refine @wpList_own_cell _ _ _ _ _ _ _ _ _ 33 (.tmp 112) rfl O2 1 bf 0 rfl _ _ rfl _ rfl _ Tryz.underlying33 rfl rfl ?_) | ((with_reducible refine @wpList_at _ _ _ _ _ _ _ (.load 33 (.tmp 117)) rfl ?_); refine @wpList_own_cell _ _ _ _ _ _ _ _ _ 33 (.tmp 117) rfl O2 1 bf 1 rfl _ _ rfl _ rfl _ Tryz.underlying33 rfl rfl ?_) | ((with_reducible refine @wpList_at _ _ _ _ _ _ _ (.load 33 (.tmp 119)) rfl ?_); refine @wpList_own_cell _ _ _ _ _ _ _ _ _ 33 (.tmp 119) rfl O2 1 bf 1 rfl _ _ rfl _ rfl _ Tryz.underlying33 rfl rfl ?_))
  refine (CA.out _ O3.grown).mono ?_
  rintro e w ⟨rfl, g⟩
  replace O3 := O3.call g
  clear g
  go_wp2_with fail
  go_ret
  exact ⟨rfl, O3.grown⟩

end Go.Proofs.YtdhchehagfmjcaaGreatDoor
