/- Walk: nunciolaw15.Few. Walks: the laws of a light client's step: the steps. -/
import Derived.Test.YtdhchehagfmjcaaGreatDoorLx
import Derived.Test.YtdhchehagfmjcaaGreatDoorAl
import Derived.Test.YtdhchehagfmjcaaGreatDoorRst
namespace Go.Proofs.YtdhchehagfmjcaaGreatDoor
open Go.RowKit
set_option maxRecDepth 100000

def fewLt (l : LtR) : Bool := decide ((l.tn : Int) ≤ 20) && (decide ((l.nn : Int) ≤ 20) && decide ((l.sn : Int) ≤ 20))
set_option maxHeartbeats 1000000 in
theorem Few_ok (x : LtR) (w : World) (hx : x.wf) : Calls Tryz.prog 15 #[.agg x.cells.toArray] w fun e w' => e = .returned (.bool (fewLt x)) ∧ w.grownBy w' none := by
  have HX := Lib.hid hx
  clear hx
  cases q1 : decide ((x.tn : Int) ≤ 20) with
  | false =>
    have E := Lib.hid (show fewLt x = false by unfold fewLt; rw [q1]; rfl)
    have d1 : decide ((x.tn : Int) ≤ 20) = false := q1
    clear q1
    go_enter Tryz.func15, Tryz.ntmps15
    go_wp2_with (first | (refine wpList_box_as rfl 31 _ rfl x.cells rfl ?_))
    intro w1 b1 g1 s1
    have c1 := LtR.set_at b1.row HX.out; have c2 := LtR.next_at b1.row HX.out; have c3 := LtR.seals_at b1.row HX.out
    rw [Nat.zero_add] at c1 c2 c3
    have G1 := Lib.hid g1
    clear b1 g1 s1
    go_wp2
    go_ret
    rw [E.out]
    exact ⟨rfl, G1.out⟩
  | true => 
    have d1 : decide ((x.tn : Int) ≤ 20) = true := q1
    cases q2 : decide ((x.nn : Int) ≤ 20) with
    | false =>
      have E := Lib.hid (show fewLt x = false by unfold fewLt; rw [q1, q2]; rfl)
      have d2 : decide ((x.nn : Int) ≤ 20) = false := q2
      clear q1 q2
      go_enter Tryz.func15, Tryz.ntmps15
      go_wp2_with (first | (refine wpList_box_as rfl 31 _ rfl x.cells rfl ?_))
      intro w1 b1 g1 s1
      have c1 := LtR.set_at b1.row HX.out; have c2 := LtR.next_at b1.row HX.out; have c3 := LtR.seals_at b1.row HX.out
      rw [Nat.zero_add] at c1 c2 c3
      have G1 := Lib.hid g1
      clear b1 g1 s1
      go_wp2
      go_ret
      rw [E.out]
      exact ⟨rfl, G1.out⟩
    | true =>
      have d2 : decide ((x.nn : Int) ≤ 20) = true := q2
      obtain ⟨q, hq⟩ : ∃ q, decide ((x.sn : Int) ≤ 20) = q := ⟨_, rfl⟩
      have E := Lib.hid (show fewLt x = q by unfold fewLt; rw [q1, q2, hq]; rfl)
      clear q1 q2
      go_enter Tryz.func15, Tryz.ntmps15
      go_wp2_with (first | (refine wpList_box_as rfl 31 _ rfl x.cells rfl ?_))
      intro w1 b1 g1 s1
      have c1 := LtR.set_at b1.row HX.out; have c2 := LtR.next_at b1.row HX.out; have c3 := LtR.seals_at b1.row HX.out
      rw [Nat.zero_add] at c1 c2 c3
      have G1 := Lib.hid g1
      clear b1 g1 s1
      go_wp2
      go_ret
      rw [E.out]
      exact ⟨rfl, G1.out⟩

theorem few_lens {B : Nat} {w : World} {x : LtR} {l : LightD} (h : x.of B w l) : fewLt x = true ↔ l.set.length ≤ 20 ∧ l.next.length ≤ 20 ∧ l.commit.seals.length ≤ 20 := by
  unfold fewLt
  rw [h.sn, h.tn, h.nn]
  simp only [Bool.and_eq_true, decide_eq_true_eq]
  omega
theorem few_seals {B : Nat} {w : World} {x : LtR} {l : LightD} (h : x.of B w l) : fewLt x = true → l.commit.seals.length ≤ 20 := fun hf => ((few_lens h).1 hf).2.2

theorem two_fst {x : LtR} {cs : List Value} {w : World} {g : Nat} (h : RowAt w g 0 (x.cells ++ cs)) : RowAt w g 0 x.cells := fun j v hj => by
  have hlt := (List.getElem?_eq_some_iff.1 hj).1
  exact h j v (by rw [List.getElem?_append_left hlt]; exact hj)
theorem two_snd {x : LtR} (hx : x.wf) {cs : List Value} {w : World} {g : Nat} (h : RowAt w g 0 (x.cells ++ cs)) : RowAt w g 200 cs := fun j v hj => by
  have := h (200 + j) v (by rw [List.getElem?_append_right (by rw [x.cells_length hx]; omega), x.cells_length hx, Nat.add_sub_cancel_left]; exact hj)
  rwa [Nat.zero_add] at this
set_option maxHeartbeats 4000000 in
theorem VerifySteps_any (x y : LtR) (a b : LightD) (now : Nat) (o : OptD) (w0 : World) (ha : a.wf) (hb : b.wf) (ox : x.of w0.heap.size w0 a) (oy : y.of w0.heap.size w0 b) (hnow : now < 18446744073709551616) (ho : o.wf)
    (hca : a.header.chain.size ≤ 140737488351232) (hcb : b.header.chain.size ≤ 140737488351232) (hR : RowAt w0 1 0 (wCells rootsL)) :
    Calls Tryz.prog 3 #[.agg (x.cells ++ y.cells).toArray, .float .f64 now, .agg o.cells.toArray] w0 fun e w' => e = .returned (.bool true) ∧ w0.grownBy w' none := by
  have O := Own.start w0
  have XW := Lib.hid (ox.wf ha); have YW := Lib.hid (oy.wf hb)
  have CA := Lib.hid (fun w (g : w0.grownBy w none) => alive15_ok w (hR.grown g (by simp)))
  have F1 := fun w => Few_ok x w XW.out; have F2 := fun w => Few_ok y w YW.out
  have CP := fun (nb : b.commit.seals.length ≤ 20) w (g : w0.grownBy w none) => Step_ok x y a b now o w ha hb (ox.up g (Nat.le_refl _)) (oy.up g (Nat.le_refl _)) hnow ho (by omega) (by unfold maxLen; omega) (hR.grown g (by simp))
  have CR := fun (nb : b.commit.seals.length ≤ 20) w (g : w0.grownBy w none) => RStep_ok x y a b now o w ha hb (ox.up g (Nat.le_refl _)) (oy.up g (Nat.le_refl _)) hnow ho (by omega) hca hcb
  have hf := few_seals oy
  obtain ⟨p, hp⟩ : ∃ z, fewLt x = z := ⟨_, rfl⟩
  obtain ⟨q, hq⟩ : ∃ z, fewLt y = z := ⟨_, rfl⟩
  obtain ⟨V, hV⟩ : ∃ z, vstepL a b now o = z := ⟨_, rfl⟩
  rw [hp] at F1; rw [hq] at F2 hf; rw [hV] at CP CR
  replace F1 := Lib.hid F1; replace F2 := Lib.hid F2; replace CP := Lib.hid CP; replace CR := Lib.hid CR; replace hf := Lib.hid hf
  clear hp hq hV ha hb ox oy hnow ho hca hcb hR
  go_enter Tryz.func3, Tryz.ntmps3
  go_wp2_with (first | ((with_reducible refine @wpList_at _ _ _ _ _ _ _ (.box 32 (.tmp 0)) rfl ?_); refine @wpList_own_box _ _ _ _ _ _ _ _ _ 32 (.tmp 0) rfl (x.cells ++ y.cells) rfl O rfl ?_; clear O; intro bt w O) | ((with_reducible refine @wpList_at _ _ _ _ _ _ _ (.box 35 (.tmp 2)) rfl ?_); refine @wpList_own_box _ _ _ _ _ _ _ _ _ 35 (.tmp 2) rfl o.cells rfl O rfl ?_; clear O; intro bo w O) | ((with_reducible refine @wpList_at _ _ _ _ _ _ _ (.load 31 (.tmp 9)) rfl ?_); refine @wpList_own_part _ _ _ _ _ _ _ _ _ 31 (.tmp 9) rfl O 1 bt 0 rfl _ _ rfl x.cells _ (fun h => two_fst h) Tryz.underlying31 rfl (sizeLt _ XW.out) rfl ?_) | ((with_reducible refine @wpList_at _ _ _ _ _ _ _ (.load 31 (.tmp 12)) rfl ?_); refine @wpList_own_part _ _ _ _ _ _ _ _ _ 31 (.tmp 12) rfl O 1 bt 200 rfl _ _ rfl y.cells _ (fun h => two_snd XW.out h) Tryz.underlying31 rfl (sizeLt _ YW.out) rfl ?_))
  refine (F1.out _).mono ?_
  rintro e w ⟨rfl, g⟩
  replace O := O.call g
  clear g
  go_wp2_with (first | ((with_reducible refine @wpList_at _ _ _ _ _ _ _ (.box 32 (.tmp 0)) rfl ?_); refine @wpList_own_box _ _ _ _ _ _ _ _ _ 32 (.tmp 0) rfl (x.cells ++ y.cells) rfl O rfl ?_; clear O; intro bt w O) | ((with_reducible refine @wpList_at _ _ _ _ _ _ _ (.box 35 (.tmp 2)) rfl ?_); refine @wpList_own_box _ _ _ _ _ _ _ _ _ 35 (.tmp 2) rfl o.cells rfl O rfl ?_; clear O; intro bo w O) | ((with_reducible refine @wpList_at _ _ _ _ _ _ _ (.load 31 (.tmp 9)) rfl ?_); refine @wpList_own_part _ _ _ _ _ _ _ _ _ 31 (.tmp 9) rfl O 1 bt 0 rfl _ _ rfl x.cells _ (fun h => two_fst h) Tryz.underlying31 rfl (sizeLt _ XW.out) rfl ?_) | ((with_reducible refine @wpList_at _ _ _ _ _ _ _ (.load 31 (.tmp 12)) rfl ?_); refine @wpList_own_part _ _ _ _ _ _ _ _ _ 31 (.tmp 12) rfl O 1 bt 200 rfl _ _ rfl y.cells _ (fun h => two_snd XW.out h) Tryz.underlying31 rfl (sizeLt _ YW.out) rfl ?_))
  refine (F2.out _).mono ?_
  rintro e w ⟨rfl, g⟩
  replace O := O.call g
  clear g
  cases p with
  | false =>
    go_wp2_with (first | ((with_reducible refine @wpList_at _ _ _ _ _ _ _ (.box 32 (.tmp 0)) rfl ?_); refine @wpList_own_box _ _ _ _ _ _ _ _ _ 32 (.tmp 0) rfl (x.cells ++ y.cells) rfl O rfl ?_; clear O; intro bt w O) | ((with_reducible refine @wpList_at _ _ _ _ _ _ _ (.box 35 (.tmp 2)) rfl ?_); refine @wpList_own_box _ _ _ _ _ _ _ _ _ 35 (.tmp 2) rfl o.cells rfl O rfl ?_; clear O; intro bo w O) | ((with_reducible refine @wpList_at _ _ _ _ _ _ _ (.load 31 (.tmp 9)) rfl ?_); refine @wpList_own_part _ _ _ _ _ _ _ _ _ 31 (.tmp 9) rfl O 1 bt 0 rfl _ _ rfl x.cells _ (fun h => two_fst h) Tryz.underlying31 rfl (sizeLt _ XW.out) rfl ?_) | ((with_reducible refine @wpList_at _ _ _ _ _ _ _ (.load 31 (.tmp 12)) rfl ?_); refine @wpList_own_part _ _ _ _ _ _ _ _ _ 31 (.tmp 12) rfl O 1 bt 200 rfl _ _ rfl y.cells _ (fun h => two_snd XW.out h) Tryz.underlying31 rfl (sizeLt _ YW.out) rfl ?_))
    refine (CA.out _ O.grown).mono ?_
    rintro e w ⟨rfl, g⟩
    replace O := O.call g
    clear g
    go_wp2_with (first | ((with_reducible refine @wpList_at _ _ _ _ _ _ _ (.box 32 (.tmp 0)) rfl ?_); refine @wpList_own_box _ _ _ _ _ _ _ _ _ 32 (.tmp 0) rfl (x.cells ++ y.cells) rfl O rfl ?_; clear O; intro bt w O) | ((with_reducible refine @wpList_at _ _ _ _ _ _ _ (.box 35 (.tmp 2)) rfl ?_); refine @wpList_own_box _ _ _ _ _ _ _ _ _ 35 (.tmp 2) rfl o.cells rfl O rfl ?_; clear O; intro bo w O) | ((with_reducible refine @wpList_at _ _ _ _ _ _ _ (.load 31 (.tmp 9)) rfl ?_); refine @wpList_own_part _ _ _ _ _ _ _ _ _ 31 (.tmp 9) rfl O 1 bt 0 rfl _ _ rfl x.cells _ (fun h => two_fst h) Tryz.underlying31 rfl (sizeLt _ XW.out) rfl ?_) | ((with_reducible refine @wpList_at _ _ _ _ _ _ _ (.load 31 (.tmp 12)) rfl ?_); refine @wpList_own_part _ _ _ _ _ _ _ _ _ 31 (.tmp 12) rfl O 1 bt 200 rfl _ _ rfl y.cells _ (fun h => two_snd XW.out h) Tryz.underlying31 rfl (sizeLt _ YW.out) rfl ?_))
    go_ret
    exact ⟨rfl, O.grown⟩
  | true =>
  cases q with
  | false =>
    go_wp2_with (first | ((with_reducible refine @wpList_at _ _ _ _ _ _ _ (.box 32 (.tmp 0)) rfl ?_); refine @wpList_own_box _ _ _ _ _ _ _ _ _ 32 (.tmp 0) rfl (x.cells ++ y.cells) rfl O rfl ?_; clear O; intro bt w O) | ((with_reducible refine @wpList_at _ _ _ _ _ _ _ (.box 35 (.tmp 2)) rfl ?_); refine @wpList_own_box _ _ _ _ _ _ _ _ _ 35 (.tmp 2) rfl o.cells rfl O rfl ?_; clear O; intro bo w O) | ((with_reducible refine @wpList_at _ _ _ _ _ _ _ (.load 31 (.tmp 9)) rfl ?_); refine @wpList_own_part _ _ _ _ _ _ _ _ _ 31 (.tmp 9) rfl O 1 bt 0 rfl _ _ rfl x.cells _ (fun h => two_fst h) Tryz.underlying31 rfl (sizeLt _ XW.out) rfl ?_) | ((with_reducible refine @wpList_at _ _ _ _ _ _ _ (.load 31 (.tmp 12)) rfl ?_); refine @wpList_own_part _ _ _ _ _ _ _ _ _ 31 (.tmp 12) rfl O 1 bt 200 rfl _ _ rfl y.cells _ (fun h => two_snd XW.out h) Tryz.underlying31 rfl (sizeLt _ YW.out) rfl ?_))
    refine (CA.out _ O.grown).mono ?_
    rintro e w ⟨rfl, g⟩
    replace O := O.call g
    clear g
    go_wp2_with (first | ((with_reducible refine @wpList_at _ _ _ _ _ _ _ (.box 32 (.tmp 0)) rfl ?_); refine @wpList_own_box _ _ _ _ _ _ _ _ _ 32 (.tmp 0) rfl (x.cells ++ y.cells) rfl O rfl ?_; clear O; intro bt w O) | ((with_reducible refine @wpList_at _ _ _ _ _ _ _ (.box 35 (.tmp 2)) rfl ?_); refine @wpList_own_box _ _ _ _ _ _ _ _ _ 35 (.tmp 2) rfl o.cells rfl O rfl ?_; clear O; intro bo w O) | ((with_reducible refine @wpList_at _ _ _ _ _ _ _ (.load 31 (.tmp 9)) rfl ?_); refine @wpList_own_part _ _ _ _ _ _ _ _ _ 31 (.tmp 9) rfl O 1 bt 0 rfl _ _ rfl x.cells _ (fun h => two_fst h) Tryz.underlying31 rfl (sizeLt _ XW.out) rfl ?_) | ((with_reducible refine @wpList_at _ _ _ _ _ _ _ (.load 31 (.tmp 12)) rfl ?_); refine @wpList_own_part _ _ _ _ _ _ _ _ _ 31 (.tmp 12) rfl O 1 bt 200 rfl _ _ rfl y.cells _ (fun h => two_snd XW.out h) Tryz.underlying31 rfl (sizeLt _ YW.out) rfl ?_))
    go_ret
    exact ⟨rfl, O.grown⟩
  | true =>
  have nb := Lib.hid (hf.out (by trivial))
  go_upto_region 5 with (fail)
  go_cut [6] from 9 (fun s6 w' => s6 = .bool true ∧ w0.grownBy w' none)
  case first =>
    replace O := O.drew
    refine wp_region_held_drew (S := fun W => ∃ L, Own w0 W (L ++ [(bo, o.cells, 35), (bt, x.cells ++ y.cells, 32)])) (by kernel_rfl) ⟨[], O⟩ (fun hH => ?_)
    refine wpAnyH_ready (rs := [0]) (by kernel_rfl) (by simp) ?_
    refine AllReadyH.cons rfl (fun K hK => ?_) (AllReadyH.nil)
    refine step_G (by rfl) (wp_call 16 _ _ (by rfl) (enters Tryz.func16 (by kernel_rfl) rfl) (by rfl) (CA.out _ O.grown) ?_)
    rintro e u1 ⟨rfl, g1⟩
    refine ⟨_, rfl, ?_⟩
    have O_1 := O.call g1
    clear g1
    simp only [Act.put, List.getElem_toArray, List.getElem_cons_zero, List.setIfInBounds_toArray, List.set_cons_zero, List.set_cons_succ]
    refine hK.out _ _ ⟨[], O_1⟩ (fun hH => ?_)
    clear hK K
    refine wpAnyH_take (i := 1) (v := (.bool true)) rfl (by kernel_rfl) (by kernel_rfl) (by kernel_rfl) (fun _ _ _ h => h) (Or.inl ⟨by rfl, fun W hS => by go_simp⟩) hH ?_
    simp only [Act.put, List.getElem_toArray, List.getElem_cons_succ, List.getElem_cons_zero, List.setIfInBounds_toArray, List.set_cons_zero, List.set_cons_succ]
    refine wpAnyH_take (i := 2) (v := (.pointer (some ⟨bt, 0, none⟩))) rfl (by kernel_rfl) (by kernel_rfl) (by kernel_rfl) (fun _ _ _ h => h) (Or.inl ⟨by rfl, fun W hS => by go_simp⟩) hH ?_
    simp only [Act.put, List.getElem_toArray, List.getElem_cons_succ, List.getElem_cons_zero, List.setIfInBounds_toArray, List.set_cons_zero, List.set_cons_succ]
    refine wpAnyH_take (i := 3) (v := (.agg x.cells.toArray)) rfl (by kernel_rfl) (by kernel_rfl) (by kernel_rfl) (fun _ _ _ h => h) (yieldsIf_load_mid (by rfl) 31 _ rfl bt 0 rfl x.cells _ (fun W hS => by obtain ⟨L, O⟩ := hS; exact two_fst ((O.row_of (g := bt) (cs := x.cells ++ y.cells) (T := 32) (by simp)))) Tryz.underlying31 rfl (sizeLt _ XW.out)) hH ?_
    simp only [Act.put, List.getElem_toArray, List.getElem_cons_succ, List.getElem_cons_zero, List.setIfInBounds_toArray, List.set_cons_zero, List.set_cons_succ]
    refine wpAnyH_take (i := 4) (v := (.pointer (some ⟨bt, 200, none⟩))) rfl (by kernel_rfl) (by kernel_rfl) (by kernel_rfl) (fun _ _ _ h => h) (Or.inl ⟨by rfl, fun W hS => by go_simp⟩) hH ?_
    simp only [Act.put, List.getElem_toArray, List.getElem_cons_succ, List.getElem_cons_zero, List.setIfInBounds_toArray, List.set_cons_zero, List.set_cons_succ]
    refine wpAnyH_take (i := 5) (v := (.agg y.cells.toArray)) rfl (by kernel_rfl) (by kernel_rfl) (by kernel_rfl) (fun _ _ _ h => h) (yieldsIf_load_mid (by rfl) 31 _ rfl bt 200 rfl y.cells _ (fun W hS => by obtain ⟨L, O⟩ := hS; exact two_snd XW.out ((O.row_of (g := bt) (cs := x.cells ++ y.cells) (T := 32) (by simp)))) Tryz.underlying31 rfl (sizeLt _ YW.out)) hH ?_
    simp only [Act.put, List.getElem_toArray, List.getElem_cons_succ, List.getElem_cons_zero, List.setIfInBounds_toArray, List.set_cons_zero, List.set_cons_succ]
    refine wpAnyH_take (i := 6) (v := (.float .f64 now)) rfl (by kernel_rfl) (by kernel_rfl) (by kernel_rfl) (fun _ _ _ h => h) (Or.inl ⟨by rfl, fun W hS => by go_simp⟩) hH ?_
    simp only [Act.put, List.getElem_toArray, List.getElem_cons_succ, List.getElem_cons_zero, List.setIfInBounds_toArray, List.set_cons_zero, List.set_cons_succ]
    refine wpAnyH_take (i := 7) (v := (.agg o.cells.toArray)) rfl (by kernel_rfl) (by kernel_rfl) (by kernel_rfl) (fun _ _ _ h => h) (yieldsIf_load_mid (by rfl) 35 _ rfl bo 0 rfl o.cells _ (fun W hS => by obtain ⟨L, O⟩ := hS; exact ((O.row_of (g := bo) (cs := o.cells) (T := 35) (by simp)))) Tryz.underlying35 rfl sizeOpt) hH ?_
    simp only [Act.put, List.getElem_toArray, List.getElem_cons_succ, List.getElem_cons_zero, List.setIfInBounds_toArray, List.set_cons_zero, List.set_cons_succ]
    refine wpAnyH_take (i := 9) (v := (.pointer (some ⟨bt, 0, none⟩))) rfl (by kernel_rfl) (by kernel_rfl) (by kernel_rfl) (fun _ _ _ h => h) (Or.inl ⟨by rfl, fun W hS => by go_simp⟩) hH ?_
    simp only [Act.put, List.getElem_toArray, List.getElem_cons_succ, List.getElem_cons_zero, List.setIfInBounds_toArray, List.set_cons_zero, List.set_cons_succ]
    refine wpAnyH_take (i := 10) (v := (.agg x.cells.toArray)) rfl (by kernel_rfl) (by kernel_rfl) (by kernel_rfl) (fun _ _ _ h => h) (yieldsIf_load_mid (by rfl) 31 _ rfl bt 0 rfl x.cells _ (fun W hS => by obtain ⟨L, O⟩ := hS; exact two_fst ((O.row_of (g := bt) (cs := x.cells ++ y.cells) (T := 32) (by simp)))) Tryz.underlying31 rfl (sizeLt _ XW.out)) hH ?_
    simp only [Act.put, List.getElem_toArray, List.getElem_cons_succ, List.getElem_cons_zero, List.setIfInBounds_toArray, List.set_cons_zero, List.set_cons_succ]
    refine wpAnyH_take (i := 11) (v := (.pointer (some ⟨bt, 200, none⟩))) rfl (by kernel_rfl) (by kernel_rfl) (by kernel_rfl) (fun _ _ _ h => h) (Or.inl ⟨by rfl, fun W hS => by go_simp⟩) hH ?_
    simp only [Act.put, List.getElem_toArray, List.getElem_cons_succ, List.getElem_cons_zero, List.setIfInBounds_toArray, List.set_cons_zero, List.set_cons_succ]
    refine wpAnyH_take (i := 12) (v := (.agg y.cells.toArray)) rfl (by kernel_rfl) (by kernel_rfl) (by kernel_rfl) (fun _ _ _ h => h) (yieldsIf_load_mid (by rfl) 31 _ rfl bt 200 rfl y.cells _ (fun W hS => by obtain ⟨L, O⟩ := hS; exact two_snd XW.out ((O.row_of (g := bt) (cs := x.cells ++ y.cells) (T := 32) (by simp)))) Tryz.underlying31 rfl (sizeLt _ YW.out)) hH ?_
    simp only [Act.put, List.getElem_toArray, List.getElem_cons_succ, List.getElem_cons_zero, List.setIfInBounds_toArray, List.set_cons_zero, List.set_cons_succ]
    refine wpAnyH_take (i := 13) (v := (.float .f64 now)) rfl (by kernel_rfl) (by kernel_rfl) (by kernel_rfl) (fun _ _ _ h => h) (Or.inl ⟨by rfl, fun W hS => by go_simp⟩) hH ?_
    simp only [Act.put, List.getElem_toArray, List.getElem_cons_succ, List.getElem_cons_zero, List.setIfInBounds_toArray, List.set_cons_zero, List.set_cons_succ]
    refine wpAnyH_take (i := 14) (v := (.agg o.cells.toArray)) rfl (by kernel_rfl) (by kernel_rfl) (by kernel_rfl) (fun _ _ _ h => h) (yieldsIf_load_mid (by rfl) 35 _ rfl bo 0 rfl o.cells _ (fun W hS => by obtain ⟨L, O⟩ := hS; exact ((O.row_of (g := bo) (cs := o.cells) (T := 35) (by simp)))) Tryz.underlying35 rfl sizeOpt) hH ?_
    simp only [Act.put, List.getElem_toArray, List.getElem_cons_succ, List.getElem_cons_zero, List.setIfInBounds_toArray, List.set_cons_zero, List.set_cons_succ]
    refine wpAnyH_ready (rs := [8]) (by kernel_rfl) (by simp) ?_
    refine AllReadyH.cons rfl (fun K hK => ?_) (AllReadyH.nil)
    refine step_G (by rfl) (wp_call 17 _ _ (by rfl) (enters Tryz.func17 (by kernel_rfl) rfl) (by rfl) (CP.out nb.out _ O_1.grown) ?_)
    rintro e u2 ⟨rfl, g2⟩
    refine ⟨_, rfl, ?_⟩
    have O_2 := O_1.call g2
    clear g2
    simp only [Act.put, List.getElem_toArray, List.getElem_cons_succ, List.getElem_cons_zero, List.setIfInBounds_toArray, List.set_cons_zero, List.set_cons_succ]
    refine hK.out _ _ ⟨[], O_2⟩ (fun hH => ?_)
    clear hK K
    refine wpAnyH_ready (rs := [15]) (by kernel_rfl) (by simp) ?_
    refine AllReadyH.cons rfl (fun K hK => ?_) (AllReadyH.nil)
    refine step_G (by rfl) (wp_call 18 _ _ (by rfl) (enters Tryz.func18 (by kernel_rfl) rfl) (by rfl) (CR.out nb.out _ O_2.grown) ?_)
    rintro e u3 ⟨rfl, g3⟩
    refine ⟨_, rfl, ?_⟩
    have O_3 := O_2.call g3
    clear g3
    simp only [Act.put, List.getElem_toArray, List.getElem_cons_succ, List.getElem_cons_zero, List.setIfInBounds_toArray, List.set_cons_zero, List.set_cons_succ]
    refine hK.out _ _ ⟨[], O_3⟩ (fun hH => ?_)
    clear hK K
    refine wpAnyH_take (i := 16) (v := (.bool true)) rfl (by kernel_rfl) (by kernel_rfl) (by kernel_rfl) (fun _ _ _ h => h) (Or.inl ⟨by rfl, fun W hS => by go_simp⟩) hH ?_
    simp only [Act.put, List.getElem_toArray, List.getElem_cons_succ, List.getElem_cons_zero, List.setIfInBounds_toArray, List.set_cons_zero, List.set_cons_succ]
    refine wpAnyH_take (i := 17) (v := (.bool true)) rfl (by kernel_rfl) (by kernel_rfl) (by kernel_rfl) (fun _ _ _ h => h) (Or.inl ⟨by rfl, fun W hS => by go_simp⟩) hH ?_
    simp only [Act.put, List.getElem_toArray, List.getElem_cons_succ, List.getElem_cons_zero, List.setIfInBounds_toArray, List.set_cons_zero, List.set_cons_succ]
    refine wpAnyH_take (i := 18) (v := (.bool true)) rfl (by kernel_rfl) (by kernel_rfl) (by kernel_rfl) (fun _ _ _ h => h) (Or.inl ⟨by rfl, fun W hS => by go_simp⟩) hH ?_
    simp only [Act.put, List.getElem_toArray, List.getElem_cons_succ, List.getElem_cons_zero, List.setIfInBounds_toArray, List.set_cons_zero, List.set_cons_succ]
    refine wpAnyH_done (by kernel_rfl) ?_ _
    go_wp2
    go_meet
    case rel => exact ⟨rfl, O_3.grown⟩
  obtain ⟨rfl, g⟩ := hcut
  go_wp2_with fail
  go_ret
  exact ⟨rfl, g⟩

end Go.Proofs.YtdhchehagfmjcaaGreatDoor
