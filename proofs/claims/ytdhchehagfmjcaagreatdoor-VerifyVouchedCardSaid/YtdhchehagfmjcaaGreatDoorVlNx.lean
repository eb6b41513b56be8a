/- Walk: the laws of a light client's step: the next one. -/
import Derived.Test.YtdhchehagfmjcaaGreatDoorVl
namespace Go.Proofs.YtdhchehagfmjcaaGreatDoor
open Go.RowKit
set_option maxRecDepth 100000

theorem bOptG (l p d : Nat) : Tryz.prog.built 35 [(0, .float .f64 l), (1, .float .f64 p), (2, .float .f64 d)] = some (⟨l, p, d⟩ : OptD).cells.toArray := by kernel_rfl
set_option maxHeartbeats 4000000 in
theorem VerifyNext_any (x y : LtR) (a b : LightD) (now l0 l1 : Nat) (w0 : World) (ha : a.wf) (hb : b.wf) (ox : x.of w0.heap.size w0 a) (oy : y.of w0.heap.size w0 b) (hnow : now < 18446744073709551616) (h0 : l0 < 18446744073709551616) (h1 : l1 < 18446744073709551616)
    (hca : a.header.chain.size ≤ 140737488351232) (hR : RowAt w0 1 0 (wCells rootsL)) :
    Calls Tryz.prog 8 #[.agg (x.cells ++ y.cells).toArray, .float .f64 now, .agg #[.float .f64 l0, .float .f64 l1]] w0 fun e w' => e = .returned (.bool true) ∧ w0.grownBy w' none := by
  have O := Own.start w0
  have XW := Lib.hid (ox.wf ha); have YW := Lib.hid (oy.wf hb)
  have CA := Lib.hid (fun w (g : w0.grownBy w none) => alive15_ok w (hR.grown g (by simp)))
  have F1 := fun w => Few_ok x w XW.out; have F2 := fun w => Few_ok y w YW.out
  have w1 : (⟨l0, 4652007308841189376, 4621819117588971520⟩ : OptD).wf := ⟨h0, by show (4652007308841189376 : Nat) < 18446744073709551616; decide, by show (4621819117588971520 : Nat) < 18446744073709551616; decide⟩
  have w2 : (⟨l1, 4652007308841189376, 4621819117588971520⟩ : OptD).wf := ⟨h1, by show (4652007308841189376 : Nat) < 18446744073709551616; decide, by show (4621819117588971520 : Nat) < 18446744073709551616; decide⟩
  have CP := fun (nb : b.commit.seals.length ≤ 20) w (g : w0.grownBy w none) => Step_ok x y a b now ⟨l0, 4652007308841189376, 4621819117588971520⟩ w ha hb (ox.up g (Nat.le_refl _)) (oy.up g (Nat.le_refl _)) hnow w1 (by omega) (by unfold maxLen; omega) (hR.grown g (by simp))
  have CQ := fun (nb : b.commit.seals.length ≤ 20) w (g : w0.grownBy w none) => Step_ok x y a b now ⟨l1, 4652007308841189376, 4621819117588971520⟩ w ha hb (ox.up g (Nat.le_refl _)) (oy.up g (Nat.le_refl _)) hnow w2 (by omega) (by unfold maxLen; omega) (hR.grown g (by simp))
  have CS := fun (nb : a.commit.seals.length ≤ 20) w (g : w0.grownBy w none) => Step_ok x x a a now ⟨l0, 4652007308841189376, 4621819117588971520⟩ w ha ha (ox.up g (Nat.le_refl _)) (ox.up g (Nat.le_refl _)) hnow w1 (by omega) (by unfold maxLen; omega) (hR.grown g (by simp))
  have C5 := optRight_ok ⟨l0, 4652007308841189376, 4621819117588971520⟩; have C6 := optRight_ok ⟨l1, 4652007308841189376, 4621819117588971520⟩
  have hf := few_seals ox; have hg := few_seals oy
  have hself := step_self a now ⟨l0, 4652007308841189376, 4621819117588971520⟩
  have hnext := @step_next a b now ⟨l0, 4652007308841189376, 4621819117588971520⟩ ⟨l1, 4652007308841189376, 4621819117588971520⟩
  have G1 : (x.cells ++ y.cells)[1]? = some (.int .i64 a.header.height) := by
    rw [List.getElem?_append_left (by rw [x.cells_length XW.out]; decide), ← ox.header]; rfl
  have G201 : (x.cells ++ y.cells)[201]? = some (.int .i64 b.header.height) := by
    rw [List.getElem?_append_right (by rw [x.cells_length XW.out]; decide), x.cells_length XW.out, ← oy.header]; rfl
  have hbh := hb.header.height; have hah := ha.header.height
  obtain ⟨p, hp⟩ : ∃ z, fewLt x = z := ⟨_, rfl⟩
  obtain ⟨q, hq⟩ : ∃ z, fewLt y = z := ⟨_, rfl⟩
  obtain ⟨V1, hV1⟩ : ∃ z, vstepL a b now ⟨l0, 4652007308841189376, 4621819117588971520⟩ = z := ⟨_, rfl⟩
  obtain ⟨V2, hV2⟩ : ∃ z, vstepL a b now ⟨l1, 4652007308841189376, 4621819117588971520⟩ = z := ⟨_, rfl⟩
  obtain ⟨V3, hV3⟩ : ∃ z, vstepL a a now ⟨l0, 4652007308841189376, 4621819117588971520⟩ = z := ⟨_, rfl⟩
  obtain ⟨r1, hr1⟩ : ∃ z, rightO ⟨l0, 4652007308841189376, 4621819117588971520⟩ = z := ⟨_, rfl⟩
  obtain ⟨r2, hr2⟩ : ∃ z, rightO ⟨l1, 4652007308841189376, 4621819117588971520⟩ = z := ⟨_, rfl⟩
  obtain ⟨hA, ehA⟩ : ∃ z, a.header.height = z := ⟨_, rfl⟩
  obtain ⟨hB, ehB⟩ : ∃ z, b.header.height = z := ⟨_, rfl⟩
  rw [ehA] at G1 hnext hah; rw [ehB] at G201 hnext hbh
  rw [hp] at F1 hf; rw [hq] at F2 hg; rw [hV1] at CP hnext; rw [hV2] at CQ hnext; rw [hV3] at CS hself; rw [hr1] at C5 hnext; rw [hr2] at C6 hnext
  obtain ⟨D, hD⟩ : ∃ d, IntKind.i64.wrap (hB - 1) = d := ⟨_, rfl⟩
  obtain ⟨nx, hnx⟩ : ∃ d, (D == hA) = d := ⟨_, rfl⟩
  have hn : nx = true → hB - 1 = hA ∨ hB ≤ hA := fun h => by
    rw [h] at hnx
    have e : D = hA := by simpa using hnx
    have hb1 := hbh.1; have hb2 := hbh.2; have ha1 := hah.1
    by_cases h1 : hB = -9223372036854775808
    · right; omega
    · left
      rw [← e, ← hD, IntWalk.i64_in _ (by omega)]
  have d3 : (V3 != 0) = true := by simpa using hself
  have HN := Lib.hid (fun (e : nx = true) => hnext (hn e)); replace G1 := Lib.hid G1; replace G201 := Lib.hid G201
  replace F1 := Lib.hid F1; replace F2 := Lib.hid F2; replace CP := Lib.hid CP; replace CQ := Lib.hid CQ; replace CS := Lib.hid CS; replace C5 := Lib.hid C5; replace C6 := Lib.hid C6; replace hf := Lib.hid hf; replace hg := Lib.hid hg
  clear hp hq hV1 hV2 hV3 hr1 hr2 hself hnext hn hbh hah ehA ehB ha hb ox oy hnow h0 h1 hca hR w1 w2
  go_enter Tryz.func8, Tryz.ntmps8
  go_wp2_with (first | ((with_reducible refine @wpList_at _ _ _ _ _ _ _ (.box 32 (.tmp 0)) rfl ?_); refine @wpList_own_box _ _ _ _ _ _ _ _ _ 32 (.tmp 0) rfl (x.cells ++ y.cells) rfl O rfl ?_; clear O; intro bt w O) | ((with_reducible refine @wpList_at _ _ _ _ _ _ _ (.box 65 (.tmp 2)) rfl ?_); refine @wpList_own_box _ _ _ _ _ _ _ _ _ 65 (.tmp 2) rfl [.float .f64 l0, .float .f64 l1] rfl O rfl ?_; clear O; intro bf w O) | ((with_reducible refine @wpList_at _ _ _ _ _ _ _ (.load 31 (.tmp 14)) rfl ?_); refine @wpList_own_part _ _ _ _ _ _ _ _ _ 31 (.tmp 14) rfl O 1 bt 0 rfl _ _ rfl x.cells _ (fun h => two_fst h) Tryz.underlying31 rfl (sizeLt _ XW.out) rfl ?_) | ((with_reducible refine @wpList_at _ _ _ _ _ _ _ (.load 31 (.tmp 17)) rfl ?_); refine @wpList_own_part _ _ _ _ _ _ _ _ _ 31 (.tmp 17) rfl O 1 bt 200 rfl _ _ rfl y.cells _ (fun h => two_snd XW.out h) Tryz.underlying31 rfl (sizeLt _ YW.out) rfl ?_))
  refine (F1.out _).mono ?_
  rintro e w ⟨rfl, g⟩
  replace O := O.call g
  clear g
  go_wp2_with (first | ((with_reducible refine @wpList_at _ _ _ _ _ _ _ (.box 32 (.tmp 0)) rfl ?_); refine @wpList_own_box _ _ _ _ _ _ _ _ _ 32 (.tmp 0) rfl (x.cells ++ y.cells) rfl O rfl ?_; clear O; intro bt w O) | ((with_reducible refine @wpList_at _ _ _ _ _ _ _ (.box 65 (.tmp 2)) rfl ?_); refine @wpList_own_box _ _ _ _ _ _ _ _ _ 65 (.tmp 2) rfl [.float .f64 l0, .float .f64 l1] rfl O rfl ?_; clear O; intro bf w O) | ((with_reducible refine @wpList_at _ _ _ _ _ _ _ (.load 31 (.tmp 14)) rfl ?_); refine @wpList_own_part _ _ _ _ _ _ _ _ _ 31 (.tmp 14) rfl O 1 bt 0 rfl _ _ rfl x.cells _ (fun h => two_fst h) Tryz.underlying31 rfl (sizeLt _ XW.out) rfl ?_) | ((with_reducible refine @wpList_at _ _ _ _ _ _ _ (.load 31 (.tmp 17)) rfl ?_); refine @wpList_own_part _ _ _ _ _ _ _ _ _ 31 (.tmp 17) rfl O 1 bt 200 rfl _ _ rfl y.cells _ (fun h => two_snd XW.out h) Tryz.underlying31 rfl (sizeLt _ YW.out) rfl ?_))
  refine (F2.out _).mono ?_
  rintro e w ⟨rfl, g⟩
  replace O := O.call g
  clear g
  cases p with
  | false =>
    go_wp2_with (first | ((with_reducible refine @wpList_at _ _ _ _ _ _ _ (.box 32 (.tmp 0)) rfl ?_); refine @wpList_own_box _ _ _ _ _ _ _ _ _ 32 (.tmp 0) rfl (x.cells ++ y.cells) rfl O rfl ?_; clear O; intro bt w O) | ((with_reducible refine @wpList_at _ _ _ _ _ _ _ (.box 65 (.tmp 2)) rfl ?_); refine @wpList_own_box _ _ _ _ _ _ _ _ _ 65 (.tmp 2) rfl [.float .f64 l0, .float .f64 l1] rfl O rfl ?_; clear O; intro bf w O) | ((with_reducible refine @wpList_at _ _ _ _ _ _ _ (.load 31 (.tmp 14)) rfl ?_); refine @wpList_own_part _ _ _ _ _ _ _ _ _ 31 (.tmp 14) rfl O 1 bt 0 rfl _ _ rfl x.cells _ (fun h => two_fst h) Tryz.underlying31 rfl (sizeLt _ XW.out) rfl ?_) | ((with_reducible refine @wpList_at _ _ _ _ _ _ _ (.load 31 (.tmp 17)) rfl ?_); refine @wpList_own_part _ _ _ _ _ _ _ _ _ 31 (.tmp 17) rfl O 1 bt 200 rfl _ _ rfl y.cells _ (fun h => two_snd XW.out h) Tryz.underlying31 rfl (sizeLt _ YW.out) rfl ?_))
    refine (CA.out _ O.grown).mono ?_
    rintro e w ⟨rfl, g⟩
    replace O := O.call g
    clear g
    go_wp2_with (first | ((with_reducible refine @wpList_at _ _ _ _ _ _ _ (.box 32 (.tmp 0)) rfl ?_); refine @wpList_own_box _ _ _ _ _ _ _ _ _ 32 (.tmp 0) rfl (x.cells ++ y.cells) rfl O rfl ?_; clear O; intro bt w O) | ((with_reducible refine @wpList_at _ _ _ _ _ _ _ (.box 65 (.tmp 2)) rfl ?_); refine @wpList_own_box _ _ _ _ _ _ _ _ _ 65 (.tmp 2) rfl [.float .f64 l0, .float .f64 l1] rfl O rfl ?_; clear O; intro bf w O) | ((with_reducible refine @wpList_at _ _ _ _ _ _ _ (.load 31 (.tmp 14)) rfl ?_); refine @wpList_own_part _ _ _ _ _ _ _ _ _ 31 (.tmp 14) rfl O 1 bt 0 rfl _ _ rfl x.cells _ (fun h => two_fst h) Tryz.underlying31 rfl (sizeLt _ XW.out) rfl ?_) | ((with_reducible refine @wpList_at _ _ _ _ _ _ _ (.load 31 (.tmp 17)) rfl ?_); refine @wpList_own_part _ _ _ _ _ _ _ _ _ 31 (.tmp 17) rfl O 1 bt 200 rfl _ _ rfl y.cells _ (fun h => two_snd XW.out h) Tryz.underlying31 rfl (sizeLt _ YW.out) rfl ?_))
    go_ret
    exact ⟨rfl, O.grown⟩
  | true =>
  cases q with
  | false =>
    go_wp2_with (first | ((with_reducible refine @wpList_at _ _ _ _ _ _ _ (.box 32 (.tmp 0)) rfl ?_); refine @wpList_own_box _ _ _ _ _ _ _ _ _ 32 (.tmp 0) rfl (x.cells ++ y.cells) rfl O rfl ?_; clear O; intro bt w O) | ((with_reducible refine @wpList_at _ _ _ _ _ _ _ (.box 65 (.tmp 2)) rfl ?_); refine @wpList_own_box _ _ _ _ _ _ _ _ _ 65 (.tmp 2) rfl [.float .f64 l0, .float .f64 l1] rfl O rfl ?_; clear O; intro bf w O) | ((with_reducible refine @wpList_at _ _ _ _ _ _ _ (.load 31 (.tmp 14)) rfl ?_); refine @wpList_own_part _ _ _ _ _ _ _ _ _ 31 (.tmp 14) rfl O 1 bt 0 rfl _ _ rfl x.cells _ (fun h => two_fst h) Tryz.underlying31 rfl (sizeLt _ XW.out) rfl ?_) | ((with_reducible refine @wpList_at _ _ _ _ _ _ _ (.load 31 (.tmp 17)) rfl ?_); refine @wpList_own_part _ _ _ _ _ _ _ _ _ 31 (.tmp 17) rfl O 1 bt 200 rfl _ _ rfl y.cells _ (fun h => two_snd XW.out h) Tryz.underlying31 rfl (sizeLt _ YW.out) rfl ?_))
    refine (CA.out _ O.grown).mono ?_
    rintro e w ⟨rfl, g⟩
    replace O := O.call g
    clear g
    go_wp2_with (first | ((with_reducible refine @wpList_at _ _ _ _ _ _ _ (.box 32 (.tmp 0)) rfl ?_); refine @wpList_own_box _ _ _ _ _ _ _ _ _ 32 (.tmp 0) rfl (x.cells ++ y.cells) rfl O rfl ?_; clear O; intro bt w O) | ((with_reducible refine @wpList_at _ _ _ _ _ _ _ (.box 65 (.tmp 2)) rfl ?_); refine @wpList_own_box _ _ _ _ _ _ _ _ _ 65 (.tmp 2) rfl [.float .f64 l0, .float .f64 l1] rfl O rfl ?_; clear O; intro bf w O) | ((with_reducible refine @wpList_at _ _ _ _ _ _ _ (.load 31 (.tmp 14)) rfl ?_); refine @wpList_own_part _ _ _ _ _ _ _ _ _ 31 (.tmp 14) rfl O 1 bt 0 rfl _ _ rfl x.cells _ (fun h => two_fst h) Tryz.underlying31 rfl (sizeLt _ XW.out) rfl ?_) | ((with_reducible refine @wpList_at _ _ _ _ _ _ _ (.load 31 (.tmp 17)) rfl ?_); refine @wpList_own_part _ _ _ _ _ _ _ _ _ 31 (.tmp 17) rfl O 1 bt 200 rfl _ _ rfl y.cells _ (fun h => two_snd XW.out h) Tryz.underlying31 rfl (sizeLt _ YW.out) rfl ?_))
    go_ret
    exact ⟨rfl, O.grown⟩
  | true =>
  have na := Lib.hid (hf.out (by trivial)); have nb := Lib.hid (hg.out (by trivial))
  go_upto_region 6 with (first | ((with_reducible refine @wpList_at _ _ _ _ _ _ _ (.load 33 (.tmp 27)) rfl ?_); refine @wpList_own_cell _ _ _ _ _ _ _ _ _ 33 (.tmp 27) rfl O 0 bf 0 rfl _ _ rfl _ rfl _ Tryz.underlying33 rfl rfl ?_) | ((with_reducible refine @wpList_at _ _ _ _ _ _ _ (.build 35 #[(0, .tmp 28), (1, .const (.float .f64 4652007308841189376)), (2, .const (.float .f64 4621819117588971520))]) rfl ?_); refine wpList_build_eq rfl 35 _ rfl [(0, .float .f64 l0), (1, .float .f64 4652007308841189376), (2, .float .f64 4621819117588971520)] (by kernel_rfl) (⟨l0, 4652007308841189376, 4621819117588971520⟩ : OptD).cells (bOptG _ _ _) ?_) | ((with_reducible refine @wpList_at _ _ _ _ _ _ _ (.alloc 35) rfl ?_); refine @wpList_own_alloc _ _ _ _ _ _ _ _ _ 35 rfl ZOpt ZOpt_info O rfl ?_; clear O; intro bo1 w O) | ((with_reducible refine @wpList_at _ _ _ _ _ _ _ (.store 35 (.tmp 9) (.tmp 29)) rfl ?_); refine @wpList_own_store _ _ _ _ _ _ _ _ _ 35 (.tmp 9) (.tmp 29) rfl O 0 bo1 rfl (⟨l0, 4652007308841189376, 4621819117588971520⟩ : OptD).cells ZOpt _ rfl rfl rfl opt_one sizeOpt rfl ?_; clear O; intro w O; simp only [List.set_cons_zero] at O))
  go_wp2_with (first | ((with_reducible refine @wpList_at _ _ _ _ _ _ _ (.load 33 (.tmp 30)) rfl ?_); refine @wpList_own_cell _ _ _ _ _ _ _ _ _ 33 (.tmp 30) rfl O 1 bf 1 rfl _ _ rfl _ rfl _ Tryz.underlying33 rfl rfl ?_) | ((with_reducible refine @wpList_at _ _ _ _ _ _ _ (.build 35 #[(0, .tmp 31), (1, .const (.float .f64 4652007308841189376)), (2, .const (.float .f64 4621819117588971520))]) rfl ?_); refine wpList_build_eq rfl 35 _ rfl [(0, .float .f64 l1), (1, .float .f64 4652007308841189376), (2, .float .f64 4621819117588971520)] (by kernel_rfl) (⟨l1, 4652007308841189376, 4621819117588971520⟩ : OptD).cells (bOptG _ _ _) ?_) | ((with_reducible refine @wpList_at _ _ _ _ _ _ _ (.alloc 35) rfl ?_); refine @wpList_own_alloc _ _ _ _ _ _ _ _ _ 35 rfl ZOpt ZOpt_info O rfl ?_; clear O; intro bo2 w O) | ((with_reducible refine @wpList_at _ _ _ _ _ _ _ (.store 35 (.tmp 10) (.tmp 32)) rfl ?_); refine @wpList_own_store _ _ _ _ _ _ _ _ _ 35 (.tmp 10) (.tmp 32) rfl O 0 bo2 rfl (⟨l1, 4652007308841189376, 4621819117588971520⟩ : OptD).cells ZOpt _ rfl rfl rfl opt_one sizeOpt rfl ?_; clear O; intro w O; simp only [List.set_cons_zero] at O) | ((with_reducible refine @wpList_at _ _ _ _ _ _ _ (.load 31 (.tmp 33)) rfl ?_); refine @wpList_own_part _ _ _ _ _ _ _ _ _ 31 (.tmp 33) rfl O 3 bt 0 rfl _ _ rfl x.cells _ (fun h => two_fst h) Tryz.underlying31 rfl (sizeLt _ XW.out) rfl ?_) | ((with_reducible refine @wpList_at _ _ _ _ _ _ _ (.load 31 (.tmp 35)) rfl ?_); refine @wpList_own_part _ _ _ _ _ _ _ _ _ 31 (.tmp 35) rfl O 3 bt 200 rfl _ _ rfl y.cells _ (fun h => two_snd XW.out h) Tryz.underlying31 rfl (sizeLt _ YW.out) rfl ?_) | ((with_reducible refine @wpList_at _ _ _ _ _ _ _ (.load 35 (.tmp 9)) rfl ?_); refine @wpList_own_whole _ _ _ _ _ _ _ _ _ 35 (.tmp 9) rfl O 1 bo1 rfl (⟨l0, 4652007308841189376, 4621819117588971520⟩ : OptD).cells _ rfl _ Tryz.underlying35 rfl sizeOpt rfl ?_))
  refine (CP.out nb.out _ O.grown).mono ?_
  rintro e w ⟨rfl, g⟩
  replace O := O.call g
  clear g
  go_wp2_with (first | ((with_reducible refine @wpList_at _ _ _ _ _ _ _ (.load 31 (.tmp 40)) rfl ?_); refine @wpList_own_part _ _ _ _ _ _ _ _ _ 31 (.tmp 40) rfl O 3 bt 0 rfl _ _ rfl x.cells _ (fun h => two_fst h) Tryz.underlying31 rfl (sizeLt _ XW.out) rfl ?_) | ((with_reducible refine @wpList_at _ _ _ _ _ _ _ (.load 31 (.tmp 42)) rfl ?_); refine @wpList_own_part _ _ _ _ _ _ _ _ _ 31 (.tmp 42) rfl O 3 bt 200 rfl _ _ rfl y.cells _ (fun h => two_snd XW.out h) Tryz.underlying31 rfl (sizeLt _ YW.out) rfl ?_) | ((with_reducible refine @wpList_at _ _ _ _ _ _ _ (.load 35 (.tmp 10)) rfl ?_); refine @wpList_own_whole _ _ _ _ _ _ _ _ _ 35 (.tmp 10) rfl O 0 bo2 rfl (⟨l1, 4652007308841189376, 4621819117588971520⟩ : OptD).cells _ rfl _ Tryz.underlying35 rfl sizeOpt rfl ?_))
  refine (CQ.out nb.out _ O.grown).mono ?_
  rintro e w ⟨rfl, g⟩
  replace O := O.call g
  clear g
  go_wp2_with (first | ((with_reducible refine @wpList_at _ _ _ _ _ _ _ (.load 3 (.tmp 49)) rfl ?_); refine @wpList_own_cell _ _ _ _ _ _ _ _ _ 3 (.tmp 49) rfl O 3 bt 201 rfl _ _ rfl _ G201.out _ Tryz.underlying3 rfl rfl ?_) | ((with_reducible refine @wpList_at _ _ _ _ _ _ _ (.load 3 (.tmp 54)) rfl ?_); refine @wpList_own_cell _ _ _ _ _ _ _ _ _ 3 (.tmp 54) rfl O 3 bt 1 rfl _ _ rfl _ G1.out _ Tryz.underlying3 rfl rfl ?_))
  refine (CA.out _ O.grown).mono ?_
  rintro e w ⟨rfl, g⟩
  replace O := O.call g
  clear g
  go_wp2_with (first | ((with_reducible refine @wpList_at _ _ _ _ _ _ _ (.load 31 (.tmp 59)) rfl ?_); refine @wpList_own_part _ _ _ _ _ _ _ _ _ 31 (.tmp 59) rfl O 3 bt 0 rfl _ _ rfl x.cells _ (fun h => two_fst h) Tryz.underlying31 rfl (sizeLt _ XW.out) rfl ?_) | ((with_reducible refine @wpList_at _ _ _ _ _ _ _ (.load 31 (.tmp 61)) rfl ?_); refine @wpList_own_part _ _ _ _ _ _ _ _ _ 31 (.tmp 61) rfl O 3 bt 0 rfl _ _ rfl x.cells _ (fun h => two_fst h) Tryz.underlying31 rfl (sizeLt _ XW.out) rfl ?_) | ((with_reducible refine @wpList_at _ _ _ _ _ _ _ (.load 35 (.tmp 9)) rfl ?_); refine @wpList_own_whole _ _ _ _ _ _ _ _ _ 35 (.tmp 9) rfl O 1 bo1 rfl (⟨l0, 4652007308841189376, 4621819117588971520⟩ : OptD).cells _ rfl _ Tryz.underlying35 rfl sizeOpt rfl ?_) | ((with_reducible refine @wpList_at _ _ _ _ _ _ _ (.load 35 (.tmp 10)) rfl ?_); refine @wpList_own_whole _ _ _ _ _ _ _ _ _ 35 (.tmp 10) rfl O 0 bo2 rfl (⟨l1, 4652007308841189376, 4621819117588971520⟩ : OptD).cells _ rfl _ Tryz.underlying35 rfl sizeOpt rfl ?_))
  refine (CS.out na.out _ O.grown).mono ?_
  rintro e w ⟨rfl, g⟩
  replace O := O.call g
  clear g
  cases nx with
  | false =>
    go_wp2_with (first | ((with_reducible refine @wpList_at _ _ _ _ _ _ _ (.load 31 (.tmp 59)) rfl ?_); refine @wpList_own_part _ _ _ _ _ _ _ _ _ 31 (.tmp 59) rfl O 3 bt 0 rfl _ _ rfl x.cells _ (fun h => two_fst h) Tryz.underlying31 rfl (sizeLt _ XW.out) rfl ?_) | ((with_reducible refine @wpList_at _ _ _ _ _ _ _ (.load 31 (.tmp 61)) rfl ?_); refine @wpList_own_part _ _ _ _ _ _ _ _ _ 31 (.tmp 61) rfl O 3 bt 0 rfl _ _ rfl x.cells _ (fun h => two_fst h) Tryz.underlying31 rfl (sizeLt _ XW.out) rfl ?_) | ((with_reducible refine @wpList_at _ _ _ _ _ _ _ (.load 35 (.tmp 9)) rfl ?_); refine @wpList_own_whole _ _ _ _ _ _ _ _ _ 35 (.tmp 9) rfl O 1 bo1 rfl (⟨l0, 4652007308841189376, 4621819117588971520⟩ : OptD).cells _ rfl _ Tryz.underlying35 rfl sizeOpt rfl ?_) | ((with_reducible refine @wpList_at _ _ _ _ _ _ _ (.load 35 (.tmp 10)) rfl ?_); refine @wpList_own_whole _ _ _ _ _ _ _ _ _ 35 (.tmp 10) rfl O 0 bo2 rfl (⟨l1, 4652007308841189376, 4621819117588971520⟩ : OptD).cells _ rfl _ Tryz.underlying35 rfl sizeOpt rfl ?_))
    go_ret
    exact ⟨rfl, O.grown⟩
  | true =>
  go_wp2_with (first | ((with_reducible refine @wpList_at _ _ _ _ _ _ _ (.load 31 (.tmp 59)) rfl ?_); refine @wpList_own_part _ _ _ _ _ _ _ _ _ 31 (.tmp 59) rfl O 3 bt 0 rfl _ _ rfl x.cells _ (fun h => two_fst h) Tryz.underlying31 rfl (sizeLt _ XW.out) rfl ?_) | ((with_reducible refine @wpList_at _ _ _ _ _ _ _ (.load 31 (.tmp 61)) rfl ?_); refine @wpList_own_part _ _ _ _ _ _ _ _ _ 31 (.tmp 61) rfl O 3 bt 0 rfl _ _ rfl x.cells _ (fun h => two_fst h) Tryz.underlying31 rfl (sizeLt _ XW.out) rfl ?_) | ((with_reducible refine @wpList_at _ _ _ _ _ _ _ (.load 35 (.tmp 9)) rfl ?_); refine @wpList_own_whole _ _ _ _ _ _ _ _ _ 35 (.tmp 9) rfl O 1 bo1 rfl (⟨l0, 4652007308841189376, 4621819117588971520⟩ : OptD).cells _ rfl _ Tryz.underlying35 rfl sizeOpt rfl ?_) | ((with_reducible refine @wpList_at _ _ _ _ _ _ _ (.load 35 (.tmp 10)) rfl ?_); refine @wpList_own_whole _ _ _ _ _ _ _ _ _ 35 (.tmp 10) rfl O 0 bo2 rfl (⟨l1, 4652007308841189376, 4621819117588971520⟩ : OptD).cells _ rfl _ Tryz.underlying35 rfl sizeOpt rfl ?_))
  refine (C5.out _).mono ?_
  rintro e w ⟨rfl, g⟩
  replace O := O.call g
  clear g
  cases r1 with
  | false =>
    go_wp2_with (first | ((with_reducible refine @wpList_at _ _ _ _ _ _ _ (.load 31 (.tmp 59)) rfl ?_); refine @wpList_own_part _ _ _ _ _ _ _ _ _ 31 (.tmp 59) rfl O 3 bt 0 rfl _ _ rfl x.cells _ (fun h => two_fst h) Tryz.underlying31 rfl (sizeLt _ XW.out) rfl ?_) | ((with_reducible refine @wpList_at _ _ _ _ _ _ _ (.load 31 (.tmp 61)) rfl ?_); refine @wpList_own_part _ _ _ _ _ _ _ _ _ 31 (.tmp 61) rfl O 3 bt 0 rfl _ _ rfl x.cells _ (fun h => two_fst h) Tryz.underlying31 rfl (sizeLt _ XW.out) rfl ?_) | ((with_reducible refine @wpList_at _ _ _ _ _ _ _ (.load 35 (.tmp 9)) rfl ?_); refine @wpList_own_whole _ _ _ _ _ _ _ _ _ 35 (.tmp 9) rfl O 1 bo1 rfl (⟨l0, 4652007308841189376, 4621819117588971520⟩ : OptD).cells _ rfl _ Tryz.underlying35 rfl sizeOpt rfl ?_) | ((with_reducible refine @wpList_at _ _ _ _ _ _ _ (.load 35 (.tmp 10)) rfl ?_); refine @wpList_own_whole _ _ _ _ _ _ _ _ _ 35 (.tmp 10) rfl O 0 bo2 rfl (⟨l1, 4652007308841189376, 4621819117588971520⟩ : OptD).cells _ rfl _ Tryz.underlying35 rfl sizeOpt rfl ?_))
    go_ret
    exact ⟨rfl, O.grown⟩
  | true =>
  go_wp2_with (first | ((with_reducible refine @wpList_at _ _ _ _ _ _ _ (.load 31 (.tmp 59)) rfl ?_); refine @wpList_own_part _ _ _ _ _ _ _ _ _ 31 (.tmp 59) rfl O 3 bt 0 rfl _ _ rfl x.cells _ (fun h => two_fst h) Tryz.underlying31 rfl (sizeLt _ XW.out) rfl ?_) | ((with_reducible refine @wpList_at _ _ _ _ _ _ _ (.load 31 (.tmp 61)) rfl ?_); refine @wpList_own_part _ _ _ _ _ _ _ _ _ 31 (.tmp 61) rfl O 3 bt 0 rfl _ _ rfl x.cells _ (fun h => two_fst h) Tryz.underlying31 rfl (sizeLt _ XW.out) rfl ?_) | ((with_reducible refine @wpList_at _ _ _ _ _ _ _ (.load 35 (.tmp 9)) rfl ?_); refine @wpList_own_whole _ _ _ _ _ _ _ _ _ 35 (.tmp 9) rfl O 1 bo1 rfl (⟨l0, 4652007308841189376, 4621819117588971520⟩ : OptD).cells _ rfl _ Tryz.underlying35 rfl sizeOpt rfl ?_) | ((with_reducible refine @wpList_at _ _ _ _ _ _ _ (.load 35 (.tmp 10)) rfl ?_); refine @wpList_own_whole _ _ _ _ _ _ _ _ _ 35 (.tmp 10) rfl O 0 bo2 rfl (⟨l1, 4652007308841189376, 4621819117588971520⟩ : OptD).cells _ rfl _ Tryz.underlying35 rfl sizeOpt rfl ?_))
  refine (C6.out _).mono ?_
  rintro e w ⟨rfl, g⟩
  replace O := O.call g
  clear g
  cases r2 with
  | false =>
    go_wp2_with (first | ((with_reducible refine @wpList_at _ _ _ _ _ _ _ (.load 31 (.tmp 59)) rfl ?_); refine @wpList_own_part _ _ _ _ _ _ _ _ _ 31 (.tmp 59) rfl O 3 bt 0 rfl _ _ rfl x.cells _ (fun h => two_fst h) Tryz.underlying31 rfl (sizeLt _ XW.out) rfl ?_) | ((with_reducible refine @wpList_at _ _ _ _ _ _ _ (.load 31 (.tmp 61)) rfl ?_); refine @wpList_own_part _ _ _ _ _ _ _ _ _ 31 (.tmp 61) rfl O 3 bt 0 rfl _ _ rfl x.cells _ (fun h => two_fst h) Tryz.underlying31 rfl (sizeLt _ XW.out) rfl ?_) | ((with_reducible refine @wpList_at _ _ _ _ _ _ _ (.load 35 (.tmp 9)) rfl ?_); refine @wpList_own_whole _ _ _ _ _ _ _ _ _ 35 (.tmp 9) rfl O 1 bo1 rfl (⟨l0, 4652007308841189376, 4621819117588971520⟩ : OptD).cells _ rfl _ Tryz.underlying35 rfl sizeOpt rfl ?_) | ((with_reducible refine @wpList_at _ _ _ _ _ _ _ (.load 35 (.tmp 10)) rfl ?_); refine @wpList_own_whole _ _ _ _ _ _ _ _ _ 35 (.tmp 10) rfl O 0 bo2 rfl (⟨l1, 4652007308841189376, 4621819117588971520⟩ : OptD).cells _ rfl _ Tryz.underlying35 rfl sizeOpt rfl ?_))
    go_ret
    exact ⟨rfl, O.grown⟩
  | true =>
  have e12 : V1 = V2 := HN.out (by trivial) (by trivial) (by trivial) (by trivial) (by trivial)
  subst e12
  go_wp2_with (first | ((with_reducible refine @wpList_at _ _ _ _ _ _ _ (.load 31 (.tmp 59)) rfl ?_); refine @wpList_own_part _ _ _ _ _ _ _ _ _ 31 (.tmp 59) rfl O 3 bt 0 rfl _ _ rfl x.cells _ (fun h => two_fst h) Tryz.underlying31 rfl (sizeLt _ XW.out) rfl ?_) | ((with_reducible refine @wpList_at _ _ _ _ _ _ _ (.load 31 (.tmp 61)) rfl ?_); refine @wpList_own_part _ _ _ _ _ _ _ _ _ 31 (.tmp 61) rfl O 3 bt 0 rfl _ _ rfl x.cells _ (fun h => two_fst h) Tryz.underlying31 rfl (sizeLt _ XW.out) rfl ?_) | ((with_reducible refine @wpList_at _ _ _ _ _ _ _ (.load 35 (.tmp 9)) rfl ?_); refine @wpList_own_whole _ _ _ _ _ _ _ _ _ 35 (.tmp 9) rfl O 1 bo1 rfl (⟨l0, 4652007308841189376, 4621819117588971520⟩ : OptD).cells _ rfl _ Tryz.underlying35 rfl sizeOpt rfl ?_) | ((with_reducible refine @wpList_at _ _ _ _ _ _ _ (.load 35 (.tmp 10)) rfl ?_); refine @wpList_own_whole _ _ _ _ _ _ _ _ _ 35 (.tmp 10) rfl O 0 bo2 rfl (⟨l1, 4652007308841189376, 4621819117588971520⟩ : OptD).cells _ rfl _ Tryz.underlying35 rfl sizeOpt rfl ?_))
  go_ret
  exact ⟨rfl, O.grown⟩

end Go.Proofs.YtdhchehagfmjcaaGreatDoor
