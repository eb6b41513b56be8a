/- Walk: the laws of a light client's step: what is sound. -/
import Derived.Test.YtdhchehagfmjcaaGreatDoorVl
namespace Go.Proofs.YtdhchehagfmjcaaGreatDoor
open Go.RowKit
set_option maxRecDepth 100000

theorem times_opt {t : Int} {now : Nat} {o : OptD} {w : World} {g : Nat} (h : RowAt w g 0 (.int .i64 t :: .float .f64 now :: o.cells)) : RowAt w g 2 o.cells := fun j v hj => by
  have := h (2 + j) v (by rw [Nat.add_comm]; exact hj)
  rwa [Nat.zero_add] at this
set_option maxHeartbeats 4000000 in
theorem VerifySound_any (s : ByteArray) (x : LtR) (l : LightD) (t : Int) (now : Nat) (o : OptD) (w0 : World) (hl : l.wf) (ox : x.of w0.heap.size w0 l) (hnow : now < 18446744073709551616) (ho : o.wf) (ht : i64R t)
    (hs : s.size ≤ 140737488351232) (hcl : l.header.chain.size ≤ 140737488351232) (hR : RowAt w0 1 0 (wCells rootsL)) :
    Calls Tryz.prog 4 #[.string s, .agg x.cells.toArray, .agg (.int .i64 t :: .float .f64 now :: o.cells).toArray] w0 fun e w' => e = .returned (.bool true) ∧ w0.grownBy w' none := by
  have O := Own.start w0
  have XW := Lib.hid (ox.wf hl)
  have CA := Lib.hid (fun w (g : w0.grownBy w none) => alive15_ok w (hR.grown g (by simp)))
  have F1 := fun w => Few_ok x w XW.out
  have CS := fun (nb : l.commit.seals.length ≤ 20) w (g : w0.grownBy w none) => vSound_ok s x l w hl (ox.up g (Nat.le_refl _)) (by omega) (by unfold maxLen; omega) (hR.grown g (by simp))
  have CT := fun (nb : l.commit.seals.length ≤ 20) w (g : w0.grownBy w none) => RSound_ok s x l w hl (ox.up g (Nat.le_refl _)) (by omega) hs hcl
  have CR := Lib.hid (optRight_ok o); have CU := Lib.hid (fun w => ROptRight_ok o w ho)
  have CE := Lib.hid (fun w => expired_ok t now o w hnow ht); have CX := Lib.hid (fun w => RExpired_ok t now o w hnow ht)
  have hf := few_seals ox
  obtain ⟨p, hp⟩ : ∃ z, fewLt x = z := ⟨_, rfl⟩
  obtain ⟨V, hV⟩ : ∃ z, soundL s l = z := ⟨_, rfl⟩
  obtain ⟨r, hr⟩ : ∃ z, rightO o = z := ⟨_, rfl⟩
  obtain ⟨ex, hex⟩ : ∃ z, expF t now o = z := ⟨_, rfl⟩
  rw [hp] at F1 hf; rw [hV] at CS CT; rw [hr] at CR CU; rw [hex] at CE CX
  replace F1 := Lib.hid F1; replace CS := Lib.hid CS; replace CT := Lib.hid CT; replace hf := Lib.hid hf
  clear hp hV hr hex hl ox hnow ho ht hs hcl hR
  go_enter Tryz.func4, Tryz.ntmps4
  go_wp2_with (first | ((with_reducible refine @wpList_at _ _ _ _ _ _ _ (.box 31 (.tmp 1)) rfl ?_); refine @wpList_own_box _ _ _ _ _ _ _ _ _ 31 (.tmp 1) rfl x.cells rfl O rfl ?_; clear O; intro bl w O) | ((with_reducible refine @wpList_at _ _ _ _ _ _ _ (.box 42 (.tmp 2)) rfl ?_); refine @wpList_own_box _ _ _ _ _ _ _ _ _ 42 (.tmp 2) rfl (.int .i64 t :: .float .f64 now :: o.cells) rfl O rfl ?_; clear O; intro bt w O) | ((with_reducible refine @wpList_at _ _ _ _ _ _ _ (.load 31 (.tmp 4)) rfl ?_); refine @wpList_own_whole _ _ _ _ _ _ _ _ _ 31 (.tmp 4) rfl O 1 bl rfl x.cells _ rfl _ Tryz.underlying31 rfl (sizeLt _ XW.out) rfl ?_))
  refine (F1.out _).mono ?_
  rintro e w ⟨rfl, g⟩
  replace O := O.call g
  clear g
  cases p with
  | false =>
    go_wp2_with (first | ((with_reducible refine @wpList_at _ _ _ _ _ _ _ (.box 31 (.tmp 1)) rfl ?_); refine @wpList_own_box _ _ _ _ _ _ _ _ _ 31 (.tmp 1) rfl x.cells rfl O rfl ?_; clear O; intro bl w O) | ((with_reducible refine @wpList_at _ _ _ _ _ _ _ (.box 42 (.tmp 2)) rfl ?_); refine @wpList_own_box _ _ _ _ _ _ _ _ _ 42 (.tmp 2) rfl (.int .i64 t :: .float .f64 now :: o.cells) rfl O rfl ?_; clear O; intro bt w O) | ((with_reducible refine @wpList_at _ _ _ _ _ _ _ (.load 31 (.tmp 4)) rfl ?_); refine @wpList_own_whole _ _ _ _ _ _ _ _ _ 31 (.tmp 4) rfl O 1 bl rfl x.cells _ rfl _ Tryz.underlying31 rfl (sizeLt _ XW.out) rfl ?_))
    refine (CA.out _ O.grown).mono ?_
    rintro e w ⟨rfl, g⟩
    replace O := O.call g
    clear g
    go_wp2_with (first | ((with_reducible refine @wpList_at _ _ _ _ _ _ _ (.box 31 (.tmp 1)) rfl ?_); refine @wpList_own_box _ _ _ _ _ _ _ _ _ 31 (.tmp 1) rfl x.cells rfl O rfl ?_; clear O; intro bl w O) | ((with_reducible refine @wpList_at _ _ _ _ _ _ _ (.box 42 (.tmp 2)) rfl ?_); refine @wpList_own_box _ _ _ _ _ _ _ _ _ 42 (.tmp 2) rfl (.int .i64 t :: .float .f64 now :: o.cells) rfl O rfl ?_; clear O; intro bt w O) | ((with_reducible refine @wpList_at _ _ _ _ _ _ _ (.load 31 (.tmp 4)) rfl ?_); refine @wpList_own_whole _ _ _ _ _ _ _ _ _ 31 (.tmp 4) rfl O 1 bl rfl x.cells _ rfl _ Tryz.underlying31 rfl (sizeLt _ XW.out) rfl ?_))
    go_ret
    exact ⟨rfl, O.grown⟩
  | true =>
  have nb := Lib.hid (hf.out (by trivial))
  go_upto_region 4 with (fail)
  go_cut [6] from 8 (fun s6 w' => s6 = .bool true ∧ w0.grownBy w' none)
  case first =>
    replace O := O.drew
    refine wp_region_held_drew (S := fun W => ∃ L, Own w0 W (L ++ [(bt, (.int .i64 t :: .float .f64 now :: o.cells), 42), (bl, x.cells, 31)])) (by kernel_rfl) ⟨[], O⟩ (fun hH => ?_)
    refine wpAnyH_ready (rs := [0]) (by kernel_rfl) (by simp) ?_
    refine AllReadyH.cons rfl (fun K hK => ?_) (AllReadyH.nil)
    refine step_G (by rfl) (wp_call 16 _ _ (by rfl) (enters Tryz.func16 (by kernel_rfl) rfl) (by rfl) (CA.out _ O.grown) ?_)
    rintro e u1 ⟨rfl, g1⟩
    refine ⟨_, rfl, ?_⟩
    have O_1 := O.call g1
    clear g1
    simp only [Act.put, List.getElem_toArray, List.getElem_cons_zero, List.setIfInBounds_toArray, List.set_cons_zero, List.set_cons_succ]
    refine hK.out _ _ ⟨[], O_1⟩ (fun hH => ?_)
    clear hK K
    refine wpAnyH_take (i := 1) (v := (.bool true)) rfl (by kernel_rfl) (by kernel_rfl) (by kernel_rfl) (fun _ _ _ h => h) (Or.inl ⟨by rfl, fun W hS => by go_simp⟩) hH ?_
    simp only [Act.put, List.getElem_toArray, List.getElem_cons_succ, List.getElem_cons_zero, List.setIfInBounds_toArray, List.set_cons_zero, List.set_cons_succ]
    refine wpAnyH_take (i := 2) (v := (.string s)) rfl (by kernel_rfl) (by kernel_rfl) (by kernel_rfl) (fun _ _ _ h => h) (Or.inl ⟨by rfl, fun W hS => by go_simp⟩) hH ?_
    simp only [Act.put, List.getElem_toArray, List.getElem_cons_succ, List.getElem_cons_zero, List.setIfInBounds_toArray, List.set_cons_zero, List.set_cons_succ]
    refine wpAnyH_take (i := 3) (v := (.agg x.cells.toArray)) rfl (by kernel_rfl) (by kernel_rfl) (by kernel_rfl) (fun _ _ _ h => h) (yieldsIf_load_mid (by rfl) 31 _ rfl bl 0 rfl x.cells _ (fun W hS => by obtain ⟨L, O⟩ := hS; exact ((O.row_of (g := bl) (cs := x.cells) (T := 31) (by simp)))) Tryz.underlying31 rfl (sizeLt _ XW.out)) hH ?_
    simp only [Act.put, List.getElem_toArray, List.getElem_cons_succ, List.getElem_cons_zero, List.setIfInBounds_toArray, List.set_cons_zero, List.set_cons_succ]
    refine wpAnyH_take (i := 5) (v := (.string s)) rfl (by kernel_rfl) (by kernel_rfl) (by kernel_rfl) (fun _ _ _ h => h) (Or.inl ⟨by rfl, fun W hS => by go_simp⟩) hH ?_
    simp only [Act.put, List.getElem_toArray, List.getElem_cons_succ, List.getElem_cons_zero, List.setIfInBounds_toArray, List.set_cons_zero, List.set_cons_succ]
    refine wpAnyH_take (i := 6) (v := (.agg x.cells.toArray)) rfl (by kernel_rfl) (by kernel_rfl) (by kernel_rfl) (fun _ _ _ h => h) (yieldsIf_load_mid (by rfl) 31 _ rfl bl 0 rfl x.cells _ (fun W hS => by obtain ⟨L, O⟩ := hS; exact ((O.row_of (g := bl) (cs := x.cells) (T := 31) (by simp)))) Tryz.underlying31 rfl (sizeLt _ XW.out)) hH ?_
    simp only [Act.put, List.getElem_toArray, List.getElem_cons_succ, List.getElem_cons_zero, List.setIfInBounds_toArray, List.set_cons_zero, List.set_cons_succ]
    refine wpAnyH_ready (rs := [4]) (by kernel_rfl) (by simp) ?_
    refine AllReadyH.cons rfl (fun K hK => ?_) (AllReadyH.nil)
    refine step_G (by rfl) (wp_call 19 _ _ (by rfl) (enters Tryz.func19 (by kernel_rfl) rfl) (by rfl) (CS.out nb.out _ O_1.grown) ?_)
    rintro e u2 ⟨rfl, g2⟩
    refine ⟨_, rfl, ?_⟩
    have O_2 := O_1.call g2
    clear g2
    simp only [Act.put, List.getElem_toArray, List.getElem_cons_succ, List.getElem_cons_zero, List.setIfInBounds_toArray, List.set_cons_zero, List.set_cons_succ]
    refine hK.out _ _ ⟨[], O_2⟩ (fun hH => ?_)
    clear hK K
    refine wpAnyH_ready (rs := [7]) (by kernel_rfl) (by simp) ?_
    refine AllReadyH.cons rfl (fun K hK => ?_) (AllReadyH.nil)
    refine step_G (by rfl) (wp_call 20 _ _ (by rfl) (enters Tryz.func20 (by kernel_rfl) rfl) (by rfl) (CT.out nb.out _ O_2.grown) ?_)
    rintro e u3 ⟨rfl, g3⟩
    refine ⟨_, rfl, ?_⟩
    have O_3 := O_2.call g3
    clear g3
    simp only [Act.put, List.getElem_toArray, List.getElem_cons_succ, List.getElem_cons_zero, List.setIfInBounds_toArray, List.set_cons_zero, List.set_cons_succ]
    refine hK.out _ _ ⟨[], O_3⟩ (fun hH => ?_)
    clear hK K
    refine wpAnyH_take (i := 8) (v := (.bool true)) rfl (by kernel_rfl) (by kernel_rfl) (by kernel_rfl) (fun _ _ _ h => h) (Or.inl ⟨by rfl, fun W hS => by go_simp⟩) hH ?_
    simp only [Act.put, List.getElem_toArray, List.getElem_cons_succ, List.getElem_cons_zero, List.setIfInBounds_toArray, List.set_cons_zero, List.set_cons_succ]
    refine wpAnyH_take (i := 9) (v := (.bool true)) rfl (by kernel_rfl) (by kernel_rfl) (by kernel_rfl) (fun _ _ _ h => h) (Or.inl ⟨by rfl, fun W hS => by go_simp⟩) hH ?_
    simp only [Act.put, List.getElem_toArray, List.getElem_cons_succ, List.getElem_cons_zero, List.setIfInBounds_toArray, List.set_cons_zero, List.set_cons_succ]
    refine wpAnyH_take (i := 10) (v := (.bool true)) rfl (by kernel_rfl) (by kernel_rfl) (by kernel_rfl) (fun _ _ _ h => h) (Or.inl ⟨by rfl, fun W hS => by go_simp⟩) hH ?_
    simp only [Act.put, List.getElem_toArray, List.getElem_cons_succ, List.getElem_cons_zero, List.setIfInBounds_toArray, List.set_cons_zero, List.set_cons_succ]
    refine wpAnyH_take (i := 11) (v := (.pointer (some ⟨bt, 2, none⟩))) rfl (by kernel_rfl) (by kernel_rfl) (by kernel_rfl) (fun _ _ _ h => h) (Or.inl ⟨by rfl, fun W hS => by go_simp⟩) hH ?_
    simp only [Act.put, List.getElem_toArray, List.getElem_cons_succ, List.getElem_cons_zero, List.setIfInBounds_toArray, List.set_cons_zero, List.set_cons_succ]
    refine wpAnyH_take (i := 12) (v := (.agg o.cells.toArray)) rfl (by kernel_rfl) (by kernel_rfl) (by kernel_rfl) (fun _ _ _ h => h) (yieldsIf_load_mid (by rfl) 35 _ rfl bt 2 rfl o.cells _ (fun W hS => by obtain ⟨L, O⟩ := hS; exact times_opt ((O.row_of (g := bt) (cs := .int .i64 t :: .float .f64 now :: o.cells) (T := 42) (by simp)))) Tryz.underlying35 rfl sizeOpt) hH ?_
    simp only [Act.put, List.getElem_toArray, List.getElem_cons_succ, List.getElem_cons_zero, List.setIfInBounds_toArray, List.set_cons_zero, List.set_cons_succ]
    refine wpAnyH_take (i := 14) (v := (.pointer (some ⟨bt, 2, none⟩))) rfl (by kernel_rfl) (by kernel_rfl) (by kernel_rfl) (fun _ _ _ h => h) (Or.inl ⟨by rfl, fun W hS => by go_simp⟩) hH ?_
    simp only [Act.put, List.getElem_toArray, List.getElem_cons_succ, List.getElem_cons_zero, List.setIfInBounds_toArray, List.set_cons_zero, List.set_cons_succ]
    refine wpAnyH_take (i := 15) (v := (.agg o.cells.toArray)) rfl (by kernel_rfl) (by kernel_rfl) (by kernel_rfl) (fun _ _ _ h => h) (yieldsIf_load_mid (by rfl) 35 _ rfl bt 2 rfl o.cells _ (fun W hS => by obtain ⟨L, O⟩ := hS; exact times_opt ((O.row_of (g := bt) (cs := .int .i64 t :: .float .f64 now :: o.cells) (T := 42) (by simp)))) Tryz.underlying35 rfl sizeOpt) hH ?_
    simp only [Act.put, List.getElem_toArray, List.getElem_cons_succ, List.getElem_cons_zero, List.setIfInBounds_toArray, List.set_cons_zero, List.set_cons_succ]
    refine wpAnyH_ready (rs := [13]) (by kernel_rfl) (by simp) ?_
    refine AllReadyH.cons rfl (fun K hK => ?_) (AllReadyH.nil)
    refine step_G (by rfl) (wp_call 21 _ _ (by rfl) (enters Tryz.func21 (by kernel_rfl) rfl) (by rfl) (CR.out _) ?_)
    rintro e u4 ⟨rfl, g4⟩
    refine ⟨_, rfl, ?_⟩
    have O_4 := O_3.call g4
    clear g4
    simp only [Act.put, List.getElem_toArray, List.getElem_cons_succ, List.getElem_cons_zero, List.setIfInBounds_toArray, List.set_cons_zero, List.set_cons_succ]
    refine hK.out _ _ ⟨[], O_4⟩ (fun hH => ?_)
    clear hK K
    refine wpAnyH_ready (rs := [16]) (by kernel_rfl) (by simp) ?_
    refine AllReadyH.cons rfl (fun K hK => ?_) (AllReadyH.nil)
    refine step_G (by rfl) (wp_call 22 _ _ (by rfl) (enters Tryz.func22 (by kernel_rfl) rfl) (by rfl) (CU.out _) ?_)
    rintro e u5 ⟨rfl, g5⟩
    refine ⟨_, rfl, ?_⟩
    have O_5 := O_4.call g5
    clear g5
    simp only [Act.put, List.getElem_toArray, List.getElem_cons_succ, List.getElem_cons_zero, List.setIfInBounds_toArray, List.set_cons_zero, List.set_cons_succ]
    refine hK.out _ _ ⟨[], O_5⟩ (fun hH => ?_)
    clear hK K
    refine wpAnyH_take (i := 17) (v := (.bool true)) rfl (by kernel_rfl) (by kernel_rfl) (by kernel_rfl) (fun _ _ _ h => h) (Or.inl ⟨by rfl, fun W hS => by go_simp⟩) hH ?_
    simp only [Act.put, List.getElem_toArray, List.getElem_cons_succ, List.getElem_cons_zero, List.setIfInBounds_toArray, List.set_cons_zero, List.set_cons_succ]
    refine wpAnyH_take (i := 18) (v := (.bool true)) rfl (by kernel_rfl) (by kernel_rfl) (by kernel_rfl) (fun _ _ _ h => h) (Or.inl ⟨by rfl, fun W hS => by go_simp⟩) hH ?_
    simp only [Act.put, List.getElem_toArray, List.getElem_cons_succ, List.getElem_cons_zero, List.setIfInBounds_toArray, List.set_cons_zero, List.set_cons_succ]
    refine wpAnyH_take (i := 19) (v := (.bool true)) rfl (by kernel_rfl) (by kernel_rfl) (by kernel_rfl) (fun _ _ _ h => h) (Or.inl ⟨by rfl, fun W hS => by go_simp⟩) hH ?_
    simp only [Act.put, List.getElem_toArray, List.getElem_cons_succ, List.getElem_cons_zero, List.setIfInBounds_toArray, List.set_cons_zero, List.set_cons_succ]
    refine wpAnyH_take (i := 20) (v := (.pointer (some ⟨bt, 0, none⟩))) rfl (by kernel_rfl) (by kernel_rfl) (by kernel_rfl) (fun _ _ _ h => h) (Or.inl ⟨by rfl, fun W hS => by go_simp⟩) hH ?_
    simp only [Act.put, List.getElem_toArray, List.getElem_cons_succ, List.getElem_cons_zero, List.setIfInBounds_toArray, List.set_cons_zero, List.set_cons_succ]
    refine wpAnyH_take (i := 21) (v := (.int .i64 t)) rfl (by kernel_rfl) (by kernel_rfl) (by kernel_rfl) (fun _ _ _ h => h) (Or.inl ⟨by rfl, fun W hS => by obtain ⟨L, O⟩ := hS; have c : W.cell? ⟨bt, 0, none⟩ = some (.int .i64 t) := (O.row_of (g := bt) (cs := (.int .i64 t :: .float .f64 now :: o.cells)) (T := 42) (by simp)) 0 _ rfl; go_simp⟩) hH ?_
    simp only [Act.put, List.getElem_toArray, List.getElem_cons_succ, List.getElem_cons_zero, List.setIfInBounds_toArray, List.set_cons_zero, List.set_cons_succ]
    refine wpAnyH_take (i := 22) (v := (.pointer (some ⟨bt, 1, none⟩))) rfl (by kernel_rfl) (by kernel_rfl) (by kernel_rfl) (fun _ _ _ h => h) (Or.inl ⟨by rfl, fun W hS => by go_simp⟩) hH ?_
    simp only [Act.put, List.getElem_toArray, List.getElem_cons_succ, List.getElem_cons_zero, List.setIfInBounds_toArray, List.set_cons_zero, List.set_cons_succ]
    refine wpAnyH_take (i := 23) (v := (.float .f64 now)) rfl (by kernel_rfl) (by kernel_rfl) (by kernel_rfl) (fun _ _ _ h => h) (Or.inl ⟨by rfl, fun W hS => by obtain ⟨L, O⟩ := hS; have c : W.cell? ⟨bt, 1, none⟩ = some (.float .f64 now) := (O.row_of (g := bt) (cs := (.int .i64 t :: .float .f64 now :: o.cells)) (T := 42) (by simp)) 1 _ rfl; go_simp⟩) hH ?_
    simp only [Act.put, List.getElem_toArray, List.getElem_cons_succ, List.getElem_cons_zero, List.setIfInBounds_toArray, List.set_cons_zero, List.set_cons_succ]
    refine wpAnyH_take (i := 24) (v := (.pointer (some ⟨bt, 2, none⟩))) rfl (by kernel_rfl) (by kernel_rfl) (by kernel_rfl) (fun _ _ _ h => h) (Or.inl ⟨by rfl, fun W hS => by go_simp⟩) hH ?_
    simp only [Act.put, List.getElem_toArray, List.getElem_cons_succ, List.getElem_cons_zero, List.setIfInBounds_toArray, List.set_cons_zero, List.set_cons_succ]
    refine wpAnyH_take (i := 25) (v := (.agg o.cells.toArray)) rfl (by kernel_rfl) (by kernel_rfl) (by kernel_rfl) (fun _ _ _ h => h) (yieldsIf_load_mid (by rfl) 35 _ rfl bt 2 rfl o.cells _ (fun W hS => by obtain ⟨L, O⟩ := hS; exact times_opt ((O.row_of (g := bt) (cs := .int .i64 t :: .float .f64 now :: o.cells) (T := 42) (by simp)))) Tryz.underlying35 rfl sizeOpt) hH ?_
    simp only [Act.put, List.getElem_toArray, List.getElem_cons_succ, List.getElem_cons_zero, List.setIfInBounds_toArray, List.set_cons_zero, List.set_cons_succ]
    refine wpAnyH_take (i := 27) (v := (.pointer (some ⟨bt, 0, none⟩))) rfl (by kernel_rfl) (by kernel_rfl) (by kernel_rfl) (fun _ _ _ h => h) (Or.inl ⟨by rfl, fun W hS => by go_simp⟩) hH ?_
    simp only [Act.put, List.getElem_toArray, List.getElem_cons_succ, List.getElem_cons_zero, List.setIfInBounds_toArray, List.set_cons_zero, List.set_cons_succ]
    refine wpAnyH_take (i := 28) (v := (.int .i64 t)) rfl (by kernel_rfl) (by kernel_rfl) (by kernel_rfl) (fun _ _ _ h => h) (Or.inl ⟨by rfl, fun W hS => by obtain ⟨L, O⟩ := hS; have c : W.cell? ⟨bt, 0, none⟩ = some (.int .i64 t) := (O.row_of (g := bt) (cs := (.int .i64 t :: .float .f64 now :: o.cells)) (T := 42) (by simp)) 0 _ rfl; go_simp⟩) hH ?_
    simp only [Act.put, List.getElem_toArray, List.getElem_cons_succ, List.getElem_cons_zero, List.setIfInBounds_toArray, List.set_cons_zero, List.set_cons_succ]
    refine wpAnyH_take (i := 29) (v := (.pointer (some ⟨bt, 1, none⟩))) rfl (by kernel_rfl) (by kernel_rfl) (by kernel_rfl) (fun _ _ _ h => h) (Or.inl ⟨by rfl, fun W hS => by go_simp⟩) hH ?_
    simp only [Act.put, List.getElem_toArray, List.getElem_cons_succ, List.getElem_cons_zero, List.setIfInBounds_toArray, List.set_cons_zero, List.set_cons_succ]
    refine wpAnyH_take (i := 30) (v := (.float .f64 now)) rfl (by kernel_rfl) (by kernel_rfl) (by kernel_rfl) (fun _ _ _ h => h) (Or.inl ⟨by rfl, fun W hS => by obtain ⟨L, O⟩ := hS; have c : W.cell? ⟨bt, 1, none⟩ = some (.float .f64 now) := (O.row_of (g := bt) (cs := (.int .i64 t :: .float .f64 now :: o.cells)) (T := 42) (by simp)) 1 _ rfl; go_simp⟩) hH ?_
    simp only [Act.put, List.getElem_toArray, List.getElem_cons_succ, List.getElem_cons_zero, List.setIfInBounds_toArray, List.set_cons_zero, List.set_cons_succ]
    refine wpAnyH_take (i := 31) (v := (.pointer (some ⟨bt, 2, none⟩))) rfl (by kernel_rfl) (by kernel_rfl) (by kernel_rfl) (fun _ _ _ h => h) (Or.inl ⟨by rfl, fun W hS => by go_simp⟩) hH ?_
    simp only [Act.put, List.getElem_toArray, List.getElem_cons_succ, List.getElem_cons_zero, List.setIfInBounds_toArray, List.set_cons_zero, List.set_cons_succ]
    refine wpAnyH_take (i := 32) (v := (.agg o.cells.toArray)) rfl (by kernel_rfl) (by kernel_rfl) (by kernel_rfl) (fun _ _ _ h => h) (yieldsIf_load_mid (by rfl) 35 _ rfl bt 2 rfl o.cells _ (fun W hS => by obtain ⟨L, O⟩ := hS; exact times_opt ((O.row_of (g := bt) (cs := .int .i64 t :: .float .f64 now :: o.cells) (T := 42) (by simp)))) Tryz.underlying35 rfl sizeOpt) hH ?_
    simp only [Act.put, List.getElem_toArray, List.getElem_cons_succ, List.getElem_cons_zero, List.setIfInBounds_toArray, List.set_cons_zero, List.set_cons_succ]
    refine wpAnyH_ready (rs := [26]) (by kernel_rfl) (by simp) ?_
    refine AllReadyH.cons rfl (fun K hK => ?_) (AllReadyH.nil)
    refine step_G (by rfl) (wp_call 23 _ _ (by rfl) (enters Tryz.func23 (by kernel_rfl) rfl) (by rfl) (CE.out _) ?_)
    rintro e u6 ⟨rfl, g6⟩
    refine ⟨_, rfl, ?_⟩
    have O_6 := O_5.call g6
    clear g6
    simp only [Act.put, List.getElem_toArray, List.getElem_cons_succ, List.getElem_cons_zero, List.setIfInBounds_toArray, List.set_cons_zero, List.set_cons_succ]
    refine hK.out _ _ ⟨[], O_6⟩ (fun hH => ?_)
    clear hK K
    refine wpAnyH_ready (rs := [33]) (by kernel_rfl) (by simp) ?_
    refine AllReadyH.cons rfl (fun K hK => ?_) (AllReadyH.nil)
    refine step_G (by rfl) (wp_call 24 _ _ (by rfl) (enters Tryz.func24 (by kernel_rfl) rfl) (by rfl) (CX.out _) ?_)
    rintro e u7 ⟨rfl, g7⟩
    refine ⟨_, rfl, ?_⟩
    have O_7 := O_6.call g7
    clear g7
    simp only [Act.put, List.getElem_toArray, List.getElem_cons_succ, List.getElem_cons_zero, List.setIfInBounds_toArray, List.set_cons_zero, List.set_cons_succ]
    refine hK.out _ _ ⟨[], O_7⟩ (fun hH => ?_)
    clear hK K
    refine wpAnyH_take (i := 34) (v := (.bool true)) rfl (by kernel_rfl) (by kernel_rfl) (by kernel_rfl) (fun _ _ _ h => h) (Or.inl ⟨by rfl, fun W hS => by go_simp⟩) hH ?_
    simp only [Act.put, List.getElem_toArray, List.getElem_cons_succ, List.getElem_cons_zero, List.setIfInBounds_toArray, List.set_cons_zero, List.set_cons_succ]
    refine wpAnyH_take (i := 35) (v := (.bool true)) rfl (by kernel_rfl) (by kernel_rfl) (by kernel_rfl) (fun _ _ _ h => h) (Or.inl ⟨by rfl, fun W hS => by go_simp⟩) hH ?_
    simp only [Act.put, List.getElem_toArray, List.getElem_cons_succ, List.getElem_cons_zero, List.setIfInBounds_toArray, List.set_cons_zero, List.set_cons_succ]
    refine wpAnyH_take (i := 36) (v := (.bool true)) rfl (by kernel_rfl) (by kernel_rfl) (by kernel_rfl) (fun _ _ _ h => h) (Or.inl ⟨by rfl, fun W hS => by go_simp⟩) hH ?_
    simp only [Act.put, List.getElem_toArray, List.getElem_cons_succ, List.getElem_cons_zero, List.setIfInBounds_toArray, List.set_cons_zero, List.set_cons_succ]
    refine wpAnyH_done (by kernel_rfl) ?_ _
    go_wp2
    go_meet
    case rel => exact ⟨rfl, O_7.grown⟩
  obtain ⟨rfl, g⟩ := hcut
  go_wp2_with fail
  go_ret
  exact ⟨rfl, g⟩

end Go.Proofs.YtdhchehagfmjcaaGreatDoor
