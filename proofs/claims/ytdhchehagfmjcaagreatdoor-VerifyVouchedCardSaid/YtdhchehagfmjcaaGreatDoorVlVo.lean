/- Walk: the laws of a light client's step: who vouches. -/
import Derived.Test.YtdhchehagfmjcaaGreatDoorVlNx
import Derived.Test.YtdhchehagfmjcaaGreatDoorDrw
namespace Go.Proofs.YtdhchehagfmjcaaGreatDoor
open Go.RowKit
set_option maxRecDepth 100000

theorem powS_take {ds : List ValD} {l : List SealD} {k : Nat} (h : k < l.length) : powS ds (l.take (k + 1)) = powS ds (l.take k) + powL l[k].key ds := by
  have e : l.take (k + 1) = l.take k ++ [l[k]] := by rw [List.take_add_one, List.getElem?_eq_getElem h]; rfl
  rw [e, powS, powS, List.map_append, List.sum_append]
  simp
theorem powS_range {ds : List ValD} (h : rightL ds = true) (l : List SealD) : ∀ k, 0 ≤ powS ds (l.take k) ∧ powS ds (l.take k) ≤ k * 1125899906842624
  | 0 => by simp [powS]
  | k + 1 => by
    have ih := powS_range h l k
    by_cases hk : k < l.length
    · rw [powS_take hk]
      have := powL_range h l[k].key
      omega
    · rw [List.take_of_length_le (by omega)] at ih ⊢
      omega
theorem two_true {p t : Int} (h : twoB p t = true) : 0 ≤ p ∧ 0 ≤ t ∧ 2 * t < 3 * p := by
  unfold twoB powB at h
  simp only [Bool.and_eq_true, decide_eq_true_eq] at h
  omega
theorem right_pos {ds : List ValD} (h : rightL ds = true) : 0 < totalL ds := by
  obtain ⟨h1, h2, h3⟩ := right_sum h
  rw [h2]
  unfold rightL at h
  simp only [Bool.and_eq_true, decide_eq_true_eq] at h
  cases ds with
  | nil => simp at h
  | cons d l =>
    have h0 := h1 d (by simp)
    have : 0 ≤ (l.map (·.power)).sum := by
      have hl : ∀ x ∈ l, 1 ≤ x.power := fun x hx => h1 x (by simp [hx])
      clear h h1 h2 h3
      induction l with
      | nil => simp
      | cons y l ih =>
        have := ih (fun x hx => hl x (by simp [hx]))
        have := hl y (by simp)
        rw [List.map_cons, List.sum_cons]; omega
    rw [List.map_cons, List.sum_cons]; omega
theorem right_total {ds : List ValD} (h : rightL ds = true) : (sumL ds).getD (-1) = totalL ds := by
  have h0 := h
  unfold rightL at h
  simp only [Bool.and_eq_true] at h
  obtain ⟨m, hm⟩ := Option.isSome_iff_exists.1 h.1.1.1
  unfold totalL
  rw [if_pos h0, hm]; rfl
/-- what an answer of nuncioref01's Exceeds is, of any part -/
theorem RExc_any (z : Int) (T x : Nat) (hz : z < 9223372036854775808) (hT : T ≤ 1125899906842624) (h1 : 4599676419421066581 ≤ x) (h2 : x ≤ 4607182418800017408) :
    ∃ (m : Bool) (e : Int), (0 ≤ z → m = excL z T x) ∧ ∀ w, Calls Tryz.prog 31 #[.int .i64 z, .int .i64 T, .float .f64 x] w fun e' w' => e' = .returned (.tuple #[.bool m, .int .i64 e]) ∧ w' = w := by
  by_cases h0 : 0 ≤ z
  · obtain ⟨P, rfl⟩ := Int.eq_ofNat_of_zero_le h0
    exact ⟨_, 0, fun _ => rfl, fun w => (RExc_yes P T x w (by omega) hT h1 h2).mono (fun e w' h => ⟨h.1, h.2.symm⟩)⟩
  · exact ⟨false, 1, fun h => absurd h h0, fun w => (RExc_no z T x w (.inl (by omega)) h1 h2).mono (fun e w' h => ⟨h.1, h.2.symm⟩)⟩
theorem veq_self {a b : List UInt8} (h : a = b) : VEq (Lib.byteCells a) (Lib.byteCells b) = true := by rw [VEq.bytes]; simpa using h
theorem wrap_r (n : Int) : i64R (IntKind.i64.wrap n) := by
  unfold i64R
  rw [IntKind.wrap_i64]; omega
set_option maxHeartbeats 2000000 in
theorem VerifyVouched_any (x y : LtR) (a b : LightD) (now : Nat) (o : OptD) (w0 : World) (ha : a.wf) (hb : b.wf) (ox : x.of w0.heap.size w0 a) (oy : y.of w0.heap.size w0 b) (hnow : now < 18446744073709551616) (ho : o.wf)
    (hca : a.header.chain.size ≤ 140737488351232) (hcb : b.header.chain.size ≤ 140737488351232) (hR : RowAt w0 1 0 (wCells rootsL)) :
    Calls Tryz.prog 5 #[.agg (x.cells ++ y.cells).toArray, .float .f64 now, .agg o.cells.toArray] w0 fun e w' => e = .returned (.bool true) ∧ w0.grownBy w' none := by
  have O := Own.start w0
  have XW := Lib.hid (ox.wf ha); have YW := Lib.hid (oy.wf hb)
  have CA := Lib.hid (fun w (g : w0.grownBy w none) => alive15_ok w (hR.grown g (by simp)))
  have F1 := fun w => Few_ok x w XW.out; have F2 := fun w => Few_ok y w YW.out
  have CP := fun (nb : b.commit.seals.length ≤ 20) w (g : w0.grownBy w none) => Step_ok x y a b now o w ha hb (ox.up g (Nat.le_refl _)) (oy.up g (Nat.le_refl _)) hnow ho (by omega) (by unfold maxLen; omega) (hR.grown g (by simp))
  have CH := fun w => RHeaderHash y.header w (oy.header ▸ hb.header) (by rw [oy.header]; exact hcb)
  unfold RHashes at CH
  have CV := fun w (g : w0.grownBy w none) => RHashV_ok (.slice y.ta y.tn y.tc) b.set w hb.set (oy.grown g).set g.size
  have CB := fun w (g : w0.grownBy w none) => RSumV_ok (.slice y.ta y.tn y.tc) b.set w ((oy.grown g).set)
  have CN := fun w (g : w0.grownBy w none) => RSumV_ok (.slice x.na x.nn x.nc) a.next w ((ox.grown g).next)
  have CPB := fun key w (g : w0.grownBy w none) => RPowerV_ok (.slice y.ta y.tn y.tc) b.set key w ((oy.grown g).set)
  have CPN := fun key w (g : w0.grownBy w none) => RPowerV_ok (.slice x.na x.nn x.nc) a.next key w ((ox.grown g).next)
  have hcm : commitV b.commit.height b.commit.round b.commit.block (.slice y.sa y.sn y.sc) = y.comCells := by unfold LtR.comCells LtR.mid; rw [oy.height, oy.round, oy.block]; rfl
  have CS := fun d w => Stands_ok b.header.chain b.commit (.slice y.sa y.sn y.sc) d w hb.commit.block
  rw [hcm] at CS
  have EX : blake (2 :: encHeader y.header) = hdrHash y.header := rfl
  rw [EX] at CH
  have L1 := Lib.hid (show (hdrHash y.header).length = 32 from blake_len _)
  have L2 := Lib.hid (vhashL_len b.set)
  have hg := few_seals oy
  have HST := Lib.hid (fun (e : vstepL a b now o = 0) => step_iff.1 e)
  have HROW : Hid (y.sn = 0 ∨ ∃ g o, y.sa = some ⟨g, o, none⟩ ∧ g < w0.heap.size ∧ RowAt w0 g o (sealCells b.commit.seals)) := Lib.hid (by
    obtain ⟨ao, c, e, _, _, _, h⟩ := oy.seals
    injection e with e1 e2 e3
    subst e1
    rcases h with h | h
    · exact .inl (e2.trans h)
    · exact .inr h)
  have HCap := Lib.hid (show y.sn ≤ y.sc ∧ y.sc ≤ 9223372036854775807 from by have := rds_n oy.seals; unfold maxLen at this; omega)
  have HLV := fun (r : rightO o = true) => ((rightO_iff ho).1 r).1
  have HN := Lib.hid oy.sn
  have GS := (y.get_seals YW.out); have G8 := Lib.hid (y.get_set YW.out); have G9 := Lib.hid (x.get_next XW.out)
  have P0 : x.cells[0]? = some (.string a.header.chain) := by rw [← ox.header]; rfl
  have P1 : x.cells[1]? = some (.int .i64 a.header.height) := by rw [← ox.header]; rfl
  have P2 : x.cells[2]? = some (.int .i64 a.header.time) := by rw [← ox.header]; rfl
  have Q0 : y.cells[0]? = some (.string b.header.chain) := by rw [← oy.header]; rfl
  have Q1 : y.cells[1]? = some (.int .i64 b.header.height) := by rw [← oy.header]; rfl
  have Q2 : y.cells[2]? = some (.int .i64 b.header.time) := by rw [← oy.header]; rfl
  have EY := Lib.hid oy.block; have EH := Lib.hid oy.header; have EA := Lib.hid ox.header
  obtain ⟨p, hp⟩ : ∃ z, fewLt x = z := ⟨_, rfl⟩
  obtain ⟨q, hq⟩ : ∃ z, fewLt y = z := ⟨_, rfl⟩
  obtain ⟨V1, hV1⟩ : ∃ z, vstepL a b now o = z := ⟨_, rfl⟩
  rw [hp] at F1; rw [hq] at F2 hg; rw [hV1] at CP HST
  obtain ⟨N, hN⟩ : ∃ z, y.sn = z := ⟨_, rfl⟩
  rw [hN] at GS HROW HCap HN
  have W1 := Lib.hid ha; have W2 := Lib.hid hb; have HO := Lib.hid ho
  have HC2 := Lib.hid hcb
  replace F1 := Lib.hid F1; replace F2 := Lib.hid F2; replace CP := Lib.hid CP; replace CH := Lib.hid CH; replace CV := Lib.hid CV; replace CB := Lib.hid CB; replace CN := Lib.hid CN; replace CPB := Lib.hid CPB; replace CPN := Lib.hid CPN; replace CS := Lib.hid CS
  replace hg := Lib.hid hg; replace HLV := Lib.hid HLV; replace GS := Lib.hid GS
  replace P0 := Lib.hid P0; replace P1 := Lib.hid P1; replace P2 := Lib.hid P2; replace Q0 := Lib.hid Q0; replace Q1 := Lib.hid Q1; replace Q2 := Lib.hid Q2
  clear hp hq hV1 hN hcm EX ha hb ox oy hnow ho hca hcb hR
  go_enter Tryz.func5, Tryz.ntmps5
  go_upto_region 2 with (first | ((with_reducible refine @wpList_at _ _ _ _ _ _ _ (.box 32 (.tmp 0)) rfl ?_); refine @wpList_own_box _ _ _ _ _ _ _ _ _ 32 (.tmp 0) rfl (x.cells ++ y.cells) rfl O rfl ?_; clear O; intro bt w O) | ((with_reducible refine @wpList_at _ _ _ _ _ _ _ (.box 35 (.tmp 2)) rfl ?_); refine @wpList_own_box _ _ _ _ _ _ _ _ _ 35 (.tmp 2) rfl o.cells rfl O rfl ?_; clear O; intro bo w O) | ((with_reducible refine @wpList_at _ _ _ _ _ _ _ (.load 31 (.tmp 25)) rfl ?_); refine @wpList_own_part _ _ _ _ _ _ _ _ _ 31 (.tmp 25) rfl O 1 bt 0 rfl _ _ rfl x.cells _ (fun h => two_fst h) Tryz.underlying31 rfl (sizeLt _ XW.out) rfl ?_) | ((with_reducible refine @wpList_at _ _ _ _ _ _ _ (.alloc 31) rfl ?_); refine @wpList_own_alloc _ _ _ _ _ _ _ _ _ 31 rfl ZLt0 ZLt0_info O rfl ?_; clear O; intro ba w O) | ((with_reducible refine @wpList_at _ _ _ _ _ _ _ (.store 31 (.tmp 7) (.tmp 26)) rfl ?_); refine @wpList_own_store _ _ _ _ _ _ _ _ _ 31 (.tmp 7) (.tmp 26) rfl O 0 ba rfl x.cells ZLt0 _ rfl rfl (LtR.cells_length _ XW.out) (LtR_one _) (sizeLt _ XW.out) rfl ?_; clear O; intro w O; simp only [List.set_cons_zero] at O))
  go_wp2_with (first | ((with_reducible refine @wpList_at _ _ _ _ _ _ _ (.load 31 (.tmp 27)) rfl ?_); refine @wpList_own_part _ _ _ _ _ _ _ _ _ 31 (.tmp 27) rfl O 2 bt 200 rfl _ _ rfl y.cells _ (fun h => two_snd XW.out h) Tryz.underlying31 rfl (sizeLt _ YW.out) rfl ?_) | ((with_reducible refine @wpList_at _ _ _ _ _ _ _ (.alloc 31) rfl ?_); refine @wpList_own_alloc _ _ _ _ _ _ _ _ _ 31 rfl ZLt0 ZLt0_info O rfl ?_; clear O; intro bb w O) | ((with_reducible refine @wpList_at _ _ _ _ _ _ _ (.store 31 (.tmp 8) (.tmp 28)) rfl ?_); refine @wpList_own_store _ _ _ _ _ _ _ _ _ 31 (.tmp 8) (.tmp 28) rfl O 0 bb rfl y.cells ZLt0 _ rfl rfl (LtR.cells_length _ YW.out) (LtR_one _) (sizeLt _ YW.out) rfl ?_; clear O; intro w O; simp only [List.set_cons_zero] at O) | ((with_reducible refine @wpList_at _ _ _ _ _ _ _ (.load 31 (.tmp 7)) rfl ?_); refine @wpList_own_whole _ _ _ _ _ _ _ _ _ 31 (.tmp 7) rfl O 1 ba rfl x.cells _ rfl _ Tryz.underlying31 rfl (sizeLt _ XW.out) rfl ?_) | ((with_reducible refine @wpList_at _ _ _ _ _ _ _ (.load 31 (.tmp 8)) rfl ?_); refine @wpList_own_whole _ _ _ _ _ _ _ _ _ 31 (.tmp 8) rfl O 0 bb rfl y.cells _ rfl _ Tryz.underlying31 rfl (sizeLt _ YW.out) rfl ?_) | ((with_reducible refine @wpList_at _ _ _ _ _ _ _ (.load 35 (.tmp 5)) rfl ?_); refine @wpList_own_whole _ _ _ _ _ _ _ _ _ 35 (.tmp 5) rfl O 2 bo rfl o.cells _ rfl _ Tryz.underlying35 rfl sizeOpt rfl ?_))
  refine (F1.out _).mono ?_
  rintro e w ⟨rfl, g⟩
  replace O := O.call g
  clear g
  go_wp2_with (first | ((with_reducible refine @wpList_at _ _ _ _ _ _ _ (.load 31 (.tmp 27)) rfl ?_); refine @wpList_own_part _ _ _ _ _ _ _ _ _ 31 (.tmp 27) rfl O 2 bt 200 rfl _ _ rfl y.cells _ (fun h => two_snd XW.out h) Tryz.underlying31 rfl (sizeLt _ YW.out) rfl ?_) | ((with_reducible refine @wpList_at _ _ _ _ _ _ _ (.alloc 31) rfl ?_); refine @wpList_own_alloc _ _ _ _ _ _ _ _ _ 31 rfl ZLt0 ZLt0_info O rfl ?_; clear O; intro bb w O) | ((with_reducible refine @wpList_at _ _ _ _ _ _ _ (.store 31 (.tmp 8) (.tmp 28)) rfl ?_); refine @wpList_own_store _ _ _ _ _ _ _ _ _ 31 (.tmp 8) (.tmp 28) rfl O 0 bb rfl y.cells ZLt0 _ rfl rfl (LtR.cells_length _ YW.out) (LtR_one _) (sizeLt _ YW.out) rfl ?_; clear O; intro w O; simp only [List.set_cons_zero] at O) | ((with_reducible refine @wpList_at _ _ _ _ _ _ _ (.load 31 (.tmp 7)) rfl ?_); refine @wpList_own_whole _ _ _ _ _ _ _ _ _ 31 (.tmp 7) rfl O 1 ba rfl x.cells _ rfl _ Tryz.underlying31 rfl (sizeLt _ XW.out) rfl ?_) | ((with_reducible refine @wpList_at _ _ _ _ _ _ _ (.load 31 (.tmp 8)) rfl ?_); refine @wpList_own_whole _ _ _ _ _ _ _ _ _ 31 (.tmp 8) rfl O 0 bb rfl y.cells _ rfl _ Tryz.underlying31 rfl (sizeLt _ YW.out) rfl ?_) | ((with_reducible refine @wpList_at _ _ _ _ _ _ _ (.load 35 (.tmp 5)) rfl ?_); refine @wpList_own_whole _ _ _ _ _ _ _ _ _ 35 (.tmp 5) rfl O 2 bo rfl o.cells _ rfl _ Tryz.underlying35 rfl sizeOpt rfl ?_))
  refine (F2.out _).mono ?_
  rintro e w ⟨rfl, g⟩
  replace O := O.call g
  clear g
  cases p with
  | false =>
    go_wp2_with (first | ((with_reducible refine @wpList_at _ _ _ _ _ _ _ (.load 31 (.tmp 27)) rfl ?_); refine @wpList_own_part _ _ _ _ _ _ _ _ _ 31 (.tmp 27) rfl O 2 bt 200 rfl _ _ rfl y.cells _ (fun h => two_snd XW.out h) Tryz.underlying31 rfl (sizeLt _ YW.out) rfl ?_) | ((with_reducible refine @wpList_at _ _ _ _ _ _ _ (.alloc 31) rfl ?_); refine @wpList_own_alloc _ _ _ _ _ _ _ _ _ 31 rfl ZLt0 ZLt0_info O rfl ?_; clear O; intro bb w O) | ((with_reducible refine @wpList_at _ _ _ _ _ _ _ (.store 31 (.tmp 8) (.tmp 28)) rfl ?_); refine @wpList_own_store _ _ _ _ _ _ _ _ _ 31 (.tmp 8) (.tmp 28) rfl O 0 bb rfl y.cells ZLt0 _ rfl rfl (LtR.cells_length _ YW.out) (LtR_one _) (sizeLt _ YW.out) rfl ?_; clear O; intro w O; simp only [List.set_cons_zero] at O) | ((with_reducible refine @wpList_at _ _ _ _ _ _ _ (.load 31 (.tmp 7)) rfl ?_); refine @wpList_own_whole _ _ _ _ _ _ _ _ _ 31 (.tmp 7) rfl O 1 ba rfl x.cells _ rfl _ Tryz.underlying31 rfl (sizeLt _ XW.out) rfl ?_) | ((with_reducible refine @wpList_at _ _ _ _ _ _ _ (.load 31 (.tmp 8)) rfl ?_); refine @wpList_own_whole _ _ _ _ _ _ _ _ _ 31 (.tmp 8) rfl O 0 bb rfl y.cells _ rfl _ Tryz.underlying31 rfl (sizeLt _ YW.out) rfl ?_) | ((with_reducible refine @wpList_at _ _ _ _ _ _ _ (.load 35 (.tmp 5)) rfl ?_); refine @wpList_own_whole _ _ _ _ _ _ _ _ _ 35 (.tmp 5) rfl O 2 bo rfl o.cells _ rfl _ Tryz.underlying35 rfl sizeOpt rfl ?_))
    refine (CA.out _ O.grown).mono ?_
    rintro e w ⟨rfl, g⟩
    replace O := O.call g
    clear g
    go_wp2_with fail
    go_ret
    exact ⟨rfl, O.grown⟩
  | true =>
  cases q with
  | false =>
    go_wp2_with (first | ((with_reducible refine @wpList_at _ _ _ _ _ _ _ (.load 31 (.tmp 27)) rfl ?_); refine @wpList_own_part _ _ _ _ _ _ _ _ _ 31 (.tmp 27) rfl O 2 bt 200 rfl _ _ rfl y.cells _ (fun h => two_snd XW.out h) Tryz.underlying31 rfl (sizeLt _ YW.out) rfl ?_) | ((with_reducible refine @wpList_at _ _ _ _ _ _ _ (.alloc 31) rfl ?_); refine @wpList_own_alloc _ _ _ _ _ _ _ _ _ 31 rfl ZLt0 ZLt0_info O rfl ?_; clear O; intro bb w O) | ((with_reducible refine @wpList_at _ _ _ _ _ _ _ (.store 31 (.tmp 8) (.tmp 28)) rfl ?_); refine @wpList_own_store _ _ _ _ _ _ _ _ _ 31 (.tmp 8) (.tmp 28) rfl O 0 bb rfl y.cells ZLt0 _ rfl rfl (LtR.cells_length _ YW.out) (LtR_one _) (sizeLt _ YW.out) rfl ?_; clear O; intro w O; simp only [List.set_cons_zero] at O) | ((with_reducible refine @wpList_at _ _ _ _ _ _ _ (.load 31 (.tmp 7)) rfl ?_); refine @wpList_own_whole _ _ _ _ _ _ _ _ _ 31 (.tmp 7) rfl O 1 ba rfl x.cells _ rfl _ Tryz.underlying31 rfl (sizeLt _ XW.out) rfl ?_) | ((with_reducible refine @wpList_at _ _ _ _ _ _ _ (.load 31 (.tmp 8)) rfl ?_); refine @wpList_own_whole _ _ _ _ _ _ _ _ _ 31 (.tmp 8) rfl O 0 bb rfl y.cells _ rfl _ Tryz.underlying31 rfl (sizeLt _ YW.out) rfl ?_) | ((with_reducible refine @wpList_at _ _ _ _ _ _ _ (.load 35 (.tmp 5)) rfl ?_); refine @wpList_own_whole _ _ _ _ _ _ _ _ _ 35 (.tmp 5) rfl O 2 bo rfl o.cells _ rfl _ Tryz.underlying35 rfl sizeOpt rfl ?_))
    refine (CA.out _ O.grown).mono ?_
    rintro e w ⟨rfl, g⟩
    replace O := O.call g
    clear g
    go_wp2_with fail
    go_ret
    exact ⟨rfl, O.grown⟩
  | true =>
  have nb := Lib.hid (hg.out (by trivial))
  go_wp2_with (first | ((with_reducible refine @wpList_at _ _ _ _ _ _ _ (.load 31 (.tmp 27)) rfl ?_); refine @wpList_own_part _ _ _ _ _ _ _ _ _ 31 (.tmp 27) rfl O 2 bt 200 rfl _ _ rfl y.cells _ (fun h => two_snd XW.out h) Tryz.underlying31 rfl (sizeLt _ YW.out) rfl ?_) | ((with_reducible refine @wpList_at _ _ _ _ _ _ _ (.alloc 31) rfl ?_); refine @wpList_own_alloc _ _ _ _ _ _ _ _ _ 31 rfl ZLt0 ZLt0_info O rfl ?_; clear O; intro bb w O) | ((with_reducible refine @wpList_at _ _ _ _ _ _ _ (.store 31 (.tmp 8) (.tmp 28)) rfl ?_); refine @wpList_own_store _ _ _ _ _ _ _ _ _ 31 (.tmp 8) (.tmp 28) rfl O 0 bb rfl y.cells ZLt0 _ rfl rfl (LtR.cells_length _ YW.out) (LtR_one _) (sizeLt _ YW.out) rfl ?_; clear O; intro w O; simp only [List.set_cons_zero] at O) | ((with_reducible refine @wpList_at _ _ _ _ _ _ _ (.load 31 (.tmp 7)) rfl ?_); refine @wpList_own_whole _ _ _ _ _ _ _ _ _ 31 (.tmp 7) rfl O 1 ba rfl x.cells _ rfl _ Tryz.underlying31 rfl (sizeLt _ XW.out) rfl ?_) | ((with_reducible refine @wpList_at _ _ _ _ _ _ _ (.load 31 (.tmp 8)) rfl ?_); refine @wpList_own_whole _ _ _ _ _ _ _ _ _ 31 (.tmp 8) rfl O 0 bb rfl y.cells _ rfl _ Tryz.underlying31 rfl (sizeLt _ YW.out) rfl ?_) | ((with_reducible refine @wpList_at _ _ _ _ _ _ _ (.load 35 (.tmp 5)) rfl ?_); refine @wpList_own_whole _ _ _ _ _ _ _ _ _ 35 (.tmp 5) rfl O 2 bo rfl o.cells _ rfl _ Tryz.underlying35 rfl sizeOpt rfl ?_))
  refine (CP.out nb.out _ O.grown).mono ?_
  rintro e w ⟨rfl, g⟩
  replace O := O.call g
  clear g
  by_cases c1 : V1 = 0
  case neg =>
    have d1 : (V1 != 0) = true := by simpa using c1
    clear c1
    go_wp2_with (first | ((with_reducible refine @wpList_at _ _ _ _ _ _ _ (.load 31 (.tmp 27)) rfl ?_); refine @wpList_own_part _ _ _ _ _ _ _ _ _ 31 (.tmp 27) rfl O 2 bt 200 rfl _ _ rfl y.cells _ (fun h => two_snd XW.out h) Tryz.underlying31 rfl (sizeLt _ YW.out) rfl ?_) | ((with_reducible refine @wpList_at _ _ _ _ _ _ _ (.alloc 31) rfl ?_); refine @wpList_own_alloc _ _ _ _ _ _ _ _ _ 31 rfl ZLt0 ZLt0_info O rfl ?_; clear O; intro bb w O) | ((with_reducible refine @wpList_at _ _ _ _ _ _ _ (.store 31 (.tmp 8) (.tmp 28)) rfl ?_); refine @wpList_own_store _ _ _ _ _ _ _ _ _ 31 (.tmp 8) (.tmp 28) rfl O 0 bb rfl y.cells ZLt0 _ rfl rfl (LtR.cells_length _ YW.out) (LtR_one _) (sizeLt _ YW.out) rfl ?_; clear O; intro w O; simp only [List.set_cons_zero] at O) | ((with_reducible refine @wpList_at _ _ _ _ _ _ _ (.load 31 (.tmp 7)) rfl ?_); refine @wpList_own_whole _ _ _ _ _ _ _ _ _ 31 (.tmp 7) rfl O 1 ba rfl x.cells _ rfl _ Tryz.underlying31 rfl (sizeLt _ XW.out) rfl ?_) | ((with_reducible refine @wpList_at _ _ _ _ _ _ _ (.load 31 (.tmp 8)) rfl ?_); refine @wpList_own_whole _ _ _ _ _ _ _ _ _ 31 (.tmp 8) rfl O 0 bb rfl y.cells _ rfl _ Tryz.underlying31 rfl (sizeLt _ YW.out) rfl ?_) | ((with_reducible refine @wpList_at _ _ _ _ _ _ _ (.load 35 (.tmp 5)) rfl ?_); refine @wpList_own_whole _ _ _ _ _ _ _ _ _ 35 (.tmp 5) rfl O 2 bo rfl o.cells _ rfl _ Tryz.underlying35 rfl sizeOpt rfl ?_))
    refine (CA.out _ O.grown).mono ?_
    rintro e w ⟨rfl, g⟩
    replace O := O.call g
    clear g
    go_wp2_with fail
    go_ret
    exact ⟨rfl, O.grown⟩
  subst c1
  have s := HST.out (by trivial)
  have so := sound_iff.1 s.sound
  obtain ⟨hr, _, hrise, hsgn, htwo, hall⟩ := check_iff.1 so.check
  have hN := HN.out
  -- the powers
  have HF0 := Lib.hid (show powS b.set (b.commit.seals.take 0) = 0 by simp [powS])
  have HFs := Lib.hid (fun k (h : k < b.commit.seals.length) => powS_take (ds := b.set) h)
  have HFr := Lib.hid (powS_range hr b.commit.seals)
  have HG0 := Lib.hid (show powS a.next (b.commit.seals.take 0) = 0 by simp [powS])
  have HGs := Lib.hid (fun k (h : k < b.commit.seals.length) => powS_take (ds := a.next) h)
  have HV : Hid (b.header.height - 1 ≠ a.header.height → rightL a.next = true ∧ excL (powS a.next (b.commit.seals.take N)) (totalL a.next) o.level = true) := Lib.hid (by
    intro hne
    rcases s.trust with ⟨h, _⟩ | ⟨_, h⟩
    · exact absurd h hne
    · unfold vouchL at h
      split at h
      · exact absurd h (by decide)
      · rename_i h0
        obtain ⟨k1, _, _, _, k5⟩ := shared_ok (by simpa using h0)
        split at h
        · exact absurd h (by decide)
        · rename_i h2
          rw [k5] at h2
          rw [hN, List.take_length]
          exact ⟨k1, by simpa using h2⟩)
  have HGr := Lib.hid (fun (r : rightL a.next = true) => powS_range r b.commit.seals)
  have HT := Lib.hid (two_true htwo)
  have HTP := Lib.hid (right_pos hr); have HTT := Lib.hid (right_total hr); have HTL := Lib.hid (right_sum hr).2.2
  have HPW := Lib.hid (fun k => powL_range hr k)
  have HSG : Hid (∀ d ∈ b.commit.seals, signedB (stand b.header.chain b.commit d) = true) := Lib.hid (fun d hd => by
    rw [so.name]
    rcases hsgn d hd with h | h
    · exact absurd h (hall d hd)
    · exact h)
  have HRS : Hid (∀ k (h : k + 1 < b.commit.seals.length), b.commit.seals[k].key < b.commit.seals[k + 1].key) := Lib.hid (fun k h => by
    have := List.pairwise_iff_getElem.1 hrise k (k + 1) (by rw [List.length_map]; omega) (by rw [List.length_map]; omega) (by omega)
    simpa using this)
  have HLX := Lib.hid (HLV.out s.right)
  have M1 : y.block = hdrHash y.header := by rw [EH.out]; exact EY.out.trans so.block
  have M2 : y.header.set = vhashL b.set := by rw [EH.out, ← so.hset]; unfold vhashL; rw [if_pos hr]
  have HTR : Hid ((b.header.height - 1 = a.header.height ∧ y.header.set = x.header.next) ∨ b.header.height - 1 ≠ a.header.height) := Lib.hid (by
    rcases s.trust with ⟨h1, h2⟩ | ⟨h1, _⟩
    · refine .inl ⟨h1, ?_⟩
      rw [EH.out, EA.out]
      unfold nextL at h2
      split at h2
      · exact absurd h2 (by decide)
      · rename_i h3; simpa using h3
    · exact .inr h1)
  have EC := so.name
  have e1 := s.height; have e2 := s.time
  have HH : Hid (i64R a.header.height ∧ i64R b.header.height) := Lib.hid ⟨W1.out.header.height, W2.out.header.height⟩
  obtain ⟨X1, hX1⟩ : ∃ z, hdrHash y.header = z := ⟨_, rfl⟩
  obtain ⟨X2, hX2⟩ : ∃ z, vhashL b.set = z := ⟨_, rfl⟩
  obtain ⟨k1, hk1⟩ : ∃ z, okHeader y.header = z := ⟨_, rfl⟩
  obtain ⟨k2, hk2⟩ : ∃ z, errV b.set = z := ⟨_, rfl⟩
  rw [hX1] at CH L1 M1; rw [hX2] at CV L2 M2; rw [hk1] at CH; rw [hk2] at CV
  have N1 := Lib.hid (veq_self M1); have N2 := Lib.hid (veq_self M2)
  rw [EC] at Q0 CS HSG HC2
  obtain ⟨AC, hAC⟩ : ∃ z, a.header.chain = z := ⟨_, rfl⟩
  rw [hAC] at P0 Q0 CS HSG HC2
  obtain ⟨AH, hAH⟩ : ∃ z, a.header.height = z := ⟨_, rfl⟩
  obtain ⟨BH, hBH⟩ : ∃ z, b.header.height = z := ⟨_, rfl⟩
  obtain ⟨AT, hAT⟩ : ∃ z, a.header.time = z := ⟨_, rfl⟩
  obtain ⟨BT, hBT⟩ : ∃ z, b.header.time = z := ⟨_, rfl⟩
  rw [hAH] at P1 HV HTR e1 HH; rw [hBH] at Q1 HV HTR e1 HH; rw [hAT] at P2 e2; rw [hBT] at Q2 e2
  obtain ⟨TB, hTB⟩ : ∃ z, totalL b.set = z := ⟨_, rfl⟩
  rw [hTB] at HT HTP HTT HTL
  rw [HTT.out] at CB
  have HBW := Lib.hid W2.out.commit
  have HE1 := Lib.hid e1; have HE2 := Lib.hid e2
  clear hX1 hX2 hk1 hk2 hAC hAH hBH hAT hBT hTB M1 M2 EC e1 e2 so s hr hrise hsgn htwo hall hN
  go_wp2_with fail
  go_loopw [11, 12, 13] (fun ow ol i wr => ∃ (k : Nat) (f z : Int), k ≤ N ∧ f = powS b.set (b.commit.seals.take k) ∧ ow = .int .i64 f ∧ ol = .int .i64 z ∧ i = .int .i64 k ∧ i64R z ∧ (BH - 1 ≠ AH → z = powS a.next (b.commit.seals.take k)) ∧ Own w0 wr [(bb, y.cells, 31), (ba, x.cells, 31), (bo, o.cells, 35), (bt, x.cells ++ y.cells, 32)]) (fun _ _ i _ => N - (intOf i).toNat)
  case atStart => exact ⟨0, 0, 0, Nat.zero_le _, HF0.out.symm, rfl, rfl, rfl, by unfold i64R; decide, fun _ => HG0.out.symm, O⟩
  case round =>
    clear O
    obtain ⟨k, f, z, hk, hf, rfl, rfl, rfl, hz, hzv, O⟩ := hrel
    have HFk := Lib.hid hf; have HZ := Lib.hid hz; have HZV := Lib.hid hzv
    clear hf hz hzv
    by_cases hlt : k < N
    · rcases HROW.out with h0 | ⟨g, o', e, hgl, hrow⟩
      · omega
      have GT : y.cells[197]? = some (.slice (some ⟨g, o', none⟩) N y.sc) := by rw [← e]; exact GS.out
      have hks : k < b.commit.seals.length := by rw [← HN.out]; exact hlt
      have hcap := HCap.out
      have HRW := Lib.hid hrow
      obtain ⟨d, hd⟩ : ∃ d, d = b.commit.seals[k] := ⟨_, rfl⟩
      have R := RowAt.elem (hrow.grown O.grown (by simp)) (fun d _ => d.cells_length) k hks
      rw [← hd] at R
      have Hdw := Lib.hid (show d.wf from hd ▸ HBW.out.seals _ (List.getElem_mem hks))
      have hsg := HSG.out d (hd ▸ List.getElem_mem hks)
      have hfs := HFs.out k hks; have hgs := HGs.out k hks
      rw [← hd] at hfs hgs
      have hprev : 0 < k → ∃ m, k = m + 1 ∧ ∃ e : SealD, (∀ W, w0.grownBy W none → W.cell? ⟨g, o' + m * 3, none⟩ = some (.int .u64 e.key)) ∧ e.key < d.key := fun h0 => by
        obtain ⟨m, rfl⟩ : ∃ m, k = m + 1 := ⟨k - 1, by omega⟩
        refine ⟨m, rfl, b.commit.seals[m], fun W gw => ?_, hd ▸ HRS.out m hks⟩
        have := RowAt.elem (hrow.grown gw (by simp)) (fun d _ => d.cells_length) m (by omega) 0 _ rfl
        rwa [Nat.add_zero] at this
      have hst : (stand AC b.commit d).wf := put_wf (standB_wf HBW.out (Nat.le_trans HC2.out (by decide))) Hdw.out.1 Hdw.out.2.1 Hdw.out.2.2
      have hsc : (stand AC b.commit d).chain.size ≤ 140737488351232 := HC2.out
      have CSd := CS.out d
      have CG := fun w => RSigned_ok (stand AC b.commit d) w hst hsc
      rw [hsg] at CG
      have LV := VoteD.cells_length _ hst
      obtain ⟨st, hst2⟩ : ∃ v, stand AC b.commit d = v := ⟨_, rfl⟩
      rw [hst2] at CSd CG LV
      obtain ⟨ky, hky⟩ : ∃ z, d.key = z := ⟨_, rfl⟩
      have HDK := Lib.hid hky
      have DK0 := Lib.hid (show d.cells[0]? = some (.int .u64 ky) by rw [← hky]; rfl)
      rw [hky] at hfs hgs hprev
      have CPk := Lib.hid (fun w g => CPB.out ky w g); have CQk := Lib.hid (fun w g => CPN.out ky w g)
      have pr := HPW.out ky
      have fr := HFr.out k
      rw [← HFk.out] at fr
      have hN20 : N ≤ 20 := by have := nb.out; have := HN.out; omega
      obtain ⟨pn, hpn⟩ : ∃ z, powL ky b.set = z := ⟨_, rfl⟩
      obtain ⟨qn, hqn⟩ : ∃ z, powL ky a.next = z := ⟨_, rfl⟩
      rw [hpn] at CPk pr hfs; rw [hqn] at CQk hgs
      have ew := IntWalk.i64_in (f + pn) (by omega)
      obtain ⟨z', hz'⟩ : ∃ z', IntKind.i64.wrap (z + qn) = z' := ⟨_, rfl⟩
      have HZ2 := Lib.hid (show i64R z' by rw [← hz']; exact wrap_r _)
      have HZ3 : Hid (BH - 1 ≠ AH → z' = powS a.next (b.commit.seals.take (k + 1))) := Lib.hid (fun hne => by
        have h1 := HZV.out hne
        have h2 := (HGr.out (HV.out hne).1 k); have h3 := (HGr.out (HV.out hne).1 (k + 1)).2
        rw [hgs] at h3
        have h4 := powL_range (HV.out hne).1 ky
        rw [hqn] at h4
        rw [← hz', hgs, h1, IntWalk.i64_in _ (by omega)])
      clear pr fr hpn hqn hN20
      replace CSd := Lib.hid CSd; replace CG := Lib.hid CG; replace LV := Lib.hid LV; replace GT := Lib.hid GT; replace R := Lib.hid R
      replace hfs := Lib.hid hfs; replace hgs := Lib.hid hgs; replace hprev := Lib.hid hprev
      clear hd hsg hst hsc hst2 hky hrow e hgl hks
      go_wp2_with (first | ((with_reducible refine @wpList_at _ _ _ _ _ _ _ (.load 26 (.tmp 50)) rfl ?_); refine @wpList_own_cell _ _ _ _ _ _ _ _ _ 26 (.tmp 50) rfl O 0 bb 197 rfl _ _ rfl _ GT.out _ Tryz.underlying26 rfl rfl ?_) | ((with_reducible refine @wpList_at _ _ _ _ _ _ _ (.load 26 (.tmp 57)) rfl ?_); refine @wpList_own_cell _ _ _ _ _ _ _ _ _ 26 (.tmp 57) rfl O 0 bb 197 rfl _ _ rfl _ GT.out _ Tryz.underlying26 rfl rfl ?_) | ((with_reducible refine @wpList_at _ _ _ _ _ _ _ (.load 51 (.tmp 60)) rfl ?_); refine wpList_load_part rfl 51 _ rfl g (o' + k * 3) rfl d.cells _ R.out Tryz.underlying51 rfl sizeSeal ?_) | ((with_reducible refine @wpList_at _ _ _ _ _ _ _ (.alloc 51) rfl ?_); refine @wpList_own_alloc _ _ _ _ _ _ _ _ _ 51 rfl ZSeal ZSeal_info O rfl ?_; clear O; intro bs w O) | ((with_reducible refine @wpList_at _ _ _ _ _ _ _ (.store 51 (.tmp 14) (.tmp 61)) rfl ?_); refine @wpList_own_store _ _ _ _ _ _ _ _ _ 51 (.tmp 14) (.tmp 61) rfl O 0 bs rfl d.cells ZSeal _ rfl rfl rfl (SealD_one d) sizeSeal rfl ?_; clear O; intro w O; simp only [List.set_cons_zero] at O) | ((with_reducible refine @wpList_at _ _ _ _ _ _ _ (.load 9 (.tmp 63)) rfl ?_); refine @wpList_own_cell _ _ _ _ _ _ _ _ _ 9 (.tmp 63) rfl O 1 bb 0 rfl _ _ rfl _ Q0.out _ Tryz.underlying9 rfl rfl ?_) | ((with_reducible refine @wpList_at _ _ _ _ _ _ _ (.load 28 (.tmp 65)) rfl ?_); refine @wpList_own_part _ _ _ _ _ _ _ _ _ 28 (.tmp 65) rfl O 1 bb 163 rfl _ _ rfl y.comCells _ (fun h => LtR.com_at h YW.out) Tryz.underlying28 rfl (by rw [LtR.com_length YW.out]; exact sizeCommit) rfl ?_) | ((with_reducible refine @wpList_at _ _ _ _ _ _ _ (.load 51 (.tmp 14)) rfl ?_); refine @wpList_own_whole _ _ _ _ _ _ _ _ _ 51 (.tmp 14) rfl O 0 bs rfl d.cells _ rfl _ Tryz.underlying51 rfl sizeSeal rfl ?_))
      refine (CSd.out _).mono ?_
      rintro e w ⟨rfl, g⟩
      replace O := O.call g
      clear g
      go_wp2_with (first | ((with_reducible refine @wpList_at _ _ _ _ _ _ _ (.alloc 54) rfl ?_); refine @wpList_own_alloc _ _ _ _ _ _ _ _ _ 54 rfl ZVote ZVote_info O rfl ?_; clear O; intro bv w O) | ((with_reducible refine @wpList_at _ _ _ _ _ _ _ (.store 54 (.tmp 15) (.tmp 68)) rfl ?_); refine @wpList_own_store _ _ _ _ _ _ _ _ _ 54 (.tmp 15) (.tmp 68) rfl O 0 bv rfl st.cells ZVote _ rfl rfl (by rw [LV.out]; rfl) (VoteD_one _) (sizeVote _ LV.out) rfl ?_; clear O; intro w O; simp only [List.set_cons_zero] at O) | ((with_reducible refine @wpList_at _ _ _ _ _ _ _ (.load 54 (.tmp 15)) rfl ?_); refine @wpList_own_whole _ _ _ _ _ _ _ _ _ 54 (.tmp 15) rfl O 0 bv rfl st.cells _ rfl _ Tryz.underlying54 rfl (sizeVote _ LV.out) rfl ?_))
      refine (CG.out _).mono ?_
      rintro e w ⟨rfl, g⟩
      replace O := O.call g
      clear g
      go_upto_region 15 with (fail)
      have c197 := (O.at_ 2 rfl).row 197 _ GT.out
      have c0 := (O.at_ 1 rfl).row 0 _ rfl
      rw [Nat.zero_add] at c197 c0
      rw [HDK.out] at c0
      rcases Nat.eq_zero_or_pos k with h0 | h0
      · subst h0
        have HOO := Lib.hid O
        clear O
        go_quiet (fail)
        have O := HOO.out.drewN nq
        go_wp2_with (first | ((with_reducible refine @wpList_at _ _ _ _ _ _ _ (.load 29 (.tmp 91)) rfl ?_); refine @wpList_own_cell _ _ _ _ _ _ _ _ _ 29 (.tmp 91) rfl O 2 bb 198 rfl _ _ rfl _ G8.out _ Tryz.underlying29 rfl rfl ?_) | ((with_reducible refine @wpList_at _ _ _ _ _ _ _ (.load 47 (.tmp 93)) rfl ?_); refine @wpList_own_cell _ _ _ _ _ _ _ _ _ 47 (.tmp 93) rfl O 1 bs 0 rfl _ _ rfl _ DK0.out _ Tryz.underlying47 rfl rfl ?_) | ((with_reducible refine @wpList_at _ _ _ _ _ _ _ (.load 29 (.tmp 98)) rfl ?_); refine @wpList_own_cell _ _ _ _ _ _ _ _ _ 29 (.tmp 98) rfl O 3 ba 199 rfl _ _ rfl _ G9.out _ Tryz.underlying29 rfl rfl ?_) | ((with_reducible refine @wpList_at _ _ _ _ _ _ _ (.load 47 (.tmp 100)) rfl ?_); refine @wpList_own_cell _ _ _ _ _ _ _ _ _ 47 (.tmp 100) rfl O 1 bs 0 rfl _ _ rfl _ DK0.out _ Tryz.underlying47 rfl rfl ?_))
        refine (CPk.out _ O.grown).mono ?_
        rintro e w2 ⟨rfl, rfl⟩
        go_wp2_with (first | ((with_reducible refine @wpList_at _ _ _ _ _ _ _ (.load 29 (.tmp 91)) rfl ?_); refine @wpList_own_cell _ _ _ _ _ _ _ _ _ 29 (.tmp 91) rfl O 2 bb 198 rfl _ _ rfl _ G8.out _ Tryz.underlying29 rfl rfl ?_) | ((with_reducible refine @wpList_at _ _ _ _ _ _ _ (.load 47 (.tmp 93)) rfl ?_); refine @wpList_own_cell _ _ _ _ _ _ _ _ _ 47 (.tmp 93) rfl O 1 bs 0 rfl _ _ rfl _ DK0.out _ Tryz.underlying47 rfl rfl ?_) | ((with_reducible refine @wpList_at _ _ _ _ _ _ _ (.load 29 (.tmp 98)) rfl ?_); refine @wpList_own_cell _ _ _ _ _ _ _ _ _ 29 (.tmp 98) rfl O 3 ba 199 rfl _ _ rfl _ G9.out _ Tryz.underlying29 rfl rfl ?_) | ((with_reducible refine @wpList_at _ _ _ _ _ _ _ (.load 47 (.tmp 100)) rfl ?_); refine @wpList_own_cell _ _ _ _ _ _ _ _ _ 47 (.tmp 100) rfl O 1 bs 0 rfl _ _ rfl _ DK0.out _ Tryz.underlying47 rfl rfl ?_))
        refine (CQk.out _ O.grown).mono ?_
        rintro e w2 ⟨rfl, rfl⟩
        go_wp2_with (first | ((with_reducible refine @wpList_at _ _ _ _ _ _ _ (.load 29 (.tmp 91)) rfl ?_); refine @wpList_own_cell _ _ _ _ _ _ _ _ _ 29 (.tmp 91) rfl O 2 bb 198 rfl _ _ rfl _ G8.out _ Tryz.underlying29 rfl rfl ?_) | ((with_reducible refine @wpList_at _ _ _ _ _ _ _ (.load 47 (.tmp 93)) rfl ?_); refine @wpList_own_cell _ _ _ _ _ _ _ _ _ 47 (.tmp 93) rfl O 1 bs 0 rfl _ _ rfl _ DK0.out _ Tryz.underlying47 rfl rfl ?_) | ((with_reducible refine @wpList_at _ _ _ _ _ _ _ (.load 29 (.tmp 98)) rfl ?_); refine @wpList_own_cell _ _ _ _ _ _ _ _ _ 29 (.tmp 98) rfl O 3 ba 199 rfl _ _ rfl _ G9.out _ Tryz.underlying29 rfl rfl ?_) | ((with_reducible refine @wpList_at _ _ _ _ _ _ _ (.load 47 (.tmp 100)) rfl ?_); refine @wpList_own_cell _ _ _ _ _ _ _ _ _ 47 (.tmp 100) rfl O 1 bs 0 rfl _ _ rfl _ DK0.out _ Tryz.underlying47 rfl rfl ?_))
        exact ⟨⟨0 + 1, f + pn, z', by omega, by rw [hfs.out, HFk.out], rfl, rfl, by go_num, HZ2.out, HZ3.out, O.tail.tail⟩, by simp [intOf]; omega⟩
      · obtain ⟨m, rfl, e, hc, hlk⟩ := hprev.out h0
        have p0 := hc _ O.grown
        have hlk2 : decide (ky ≤ e.key) = false := decide_eq_false (by omega)
        have hm : (((m + 1 : Nat) : Int) - 1) = (m : Int) := by omega
        have HOO := Lib.hid O
        clear O hc hlk
        go_quiet (fail)
        have O := HOO.out.drewN nq
        go_wp2_with (first | ((with_reducible refine @wpList_at _ _ _ _ _ _ _ (.load 29 (.tmp 91)) rfl ?_); refine @wpList_own_cell _ _ _ _ _ _ _ _ _ 29 (.tmp 91) rfl O 2 bb 198 rfl _ _ rfl _ G8.out _ Tryz.underlying29 rfl rfl ?_) | ((with_reducible refine @wpList_at _ _ _ _ _ _ _ (.load 47 (.tmp 93)) rfl ?_); refine @wpList_own_cell _ _ _ _ _ _ _ _ _ 47 (.tmp 93) rfl O 1 bs 0 rfl _ _ rfl _ DK0.out _ Tryz.underlying47 rfl rfl ?_) | ((with_reducible refine @wpList_at _ _ _ _ _ _ _ (.load 29 (.tmp 98)) rfl ?_); refine @wpList_own_cell _ _ _ _ _ _ _ _ _ 29 (.tmp 98) rfl O 3 ba 199 rfl _ _ rfl _ G9.out _ Tryz.underlying29 rfl rfl ?_) | ((with_reducible refine @wpList_at _ _ _ _ _ _ _ (.load 47 (.tmp 100)) rfl ?_); refine @wpList_own_cell _ _ _ _ _ _ _ _ _ 47 (.tmp 100) rfl O 1 bs 0 rfl _ _ rfl _ DK0.out _ Tryz.underlying47 rfl rfl ?_))
        refine (CPk.out _ O.grown).mono ?_
        rintro e w2 ⟨rfl, rfl⟩
        go_wp2_with (first | ((with_reducible refine @wpList_at _ _ _ _ _ _ _ (.load 29 (.tmp 91)) rfl ?_); refine @wpList_own_cell _ _ _ _ _ _ _ _ _ 29 (.tmp 91) rfl O 2 bb 198 rfl _ _ rfl _ G8.out _ Tryz.underlying29 rfl rfl ?_) | ((with_reducible refine @wpList_at _ _ _ _ _ _ _ (.load 47 (.tmp 93)) rfl ?_); refine @wpList_own_cell _ _ _ _ _ _ _ _ _ 47 (.tmp 93) rfl O 1 bs 0 rfl _ _ rfl _ DK0.out _ Tryz.underlying47 rfl rfl ?_) | ((with_reducible refine @wpList_at _ _ _ _ _ _ _ (.load 29 (.tmp 98)) rfl ?_); refine @wpList_own_cell _ _ _ _ _ _ _ _ _ 29 (.tmp 98) rfl O 3 ba 199 rfl _ _ rfl _ G9.out _ Tryz.underlying29 rfl rfl ?_) | ((with_reducible refine @wpList_at _ _ _ _ _ _ _ (.load 47 (.tmp 100)) rfl ?_); refine @wpList_own_cell _ _ _ _ _ _ _ _ _ 47 (.tmp 100) rfl O 1 bs 0 rfl _ _ rfl _ DK0.out _ Tryz.underlying47 rfl rfl ?_))
        refine (CQk.out _ O.grown).mono ?_
        rintro e w2 ⟨rfl, rfl⟩
        go_wp2_with (first | ((with_reducible refine @wpList_at _ _ _ _ _ _ _ (.load 29 (.tmp 91)) rfl ?_); refine @wpList_own_cell _ _ _ _ _ _ _ _ _ 29 (.tmp 91) rfl O 2 bb 198 rfl _ _ rfl _ G8.out _ Tryz.underlying29 rfl rfl ?_) | ((with_reducible refine @wpList_at _ _ _ _ _ _ _ (.load 47 (.tmp 93)) rfl ?_); refine @wpList_own_cell _ _ _ _ _ _ _ _ _ 47 (.tmp 93) rfl O 1 bs 0 rfl _ _ rfl _ DK0.out _ Tryz.underlying47 rfl rfl ?_) | ((with_reducible refine @wpList_at _ _ _ _ _ _ _ (.load 29 (.tmp 98)) rfl ?_); refine @wpList_own_cell _ _ _ _ _ _ _ _ _ 29 (.tmp 98) rfl O 3 ba 199 rfl _ _ rfl _ G9.out _ Tryz.underlying29 rfl rfl ?_) | ((with_reducible refine @wpList_at _ _ _ _ _ _ _ (.load 47 (.tmp 100)) rfl ?_); refine @wpList_own_cell _ _ _ _ _ _ _ _ _ 47 (.tmp 100) rfl O 1 bs 0 rfl _ _ rfl _ DK0.out _ Tryz.underlying47 rfl rfl ?_))
        exact ⟨⟨m + 1 + 1, f + pn, z', by omega, by rw [hfs.out, HFk.out], rfl, rfl, by go_num, HZ2.out, HZ3.out, O.tail.tail⟩, by simp [intOf]; omega⟩
    · obtain rfl : N = k := by omega
      have hf2 : f = powS b.set b.commit.seals := by
        have h := HFk.out
        rwa [HN.out, List.take_length] at h
      have hN20 : N ≤ 20 := by have := nb.out; have := HN.out; omega
      have fr := HFr.out N
      rw [← HFk.out] at fr
      have ht := HT.out
      rw [← hf2] at ht
      have htp := HTP.out; have htl := HTL.out
      have ew3 := IntWalk.i64_in (3 * f) (by omega)
      have ew2 := IntWalk.i64_in (2 * TB) (by omega)
      have d5 : decide (2 * TB < 3 * f) = true := decide_eq_true ht.2.2
      have d6 : decide (0 < TB) = true := decide_eq_true htp
      obtain ⟨SN, hSN⟩ : ∃ z, (sumL a.next).getD (-1) = z := ⟨_, rfl⟩
      have hT : ∃ T : Nat, max SN 0 = (T : Int) ∧ T ≤ 1125899906842624 ∧ (rightL a.next = true → (T : Int) = totalL a.next) := by
        cases hs : sumL a.next with
        | none =>
          rw [hs] at hSN
          refine ⟨0, by rw [← hSN]; decide, by omega, fun hr => ?_⟩
          unfold rightL at hr
          rw [hs] at hr; simp at hr
        | some m =>
          have hm := sumGo_range a.next 0 m (by omega) (by omega) hs
          rw [hs] at hSN
          have e : m = SN := hSN
          subst e
          refine ⟨m.toNat, by rw [Int.max_def]; split <;> omega, by omega, fun hr => ?_⟩
          have := right_total hr
          rw [hs] at this
          rw [← this]
          show ((m.toNat : Nat) : Int) = m
          omega
      obtain ⟨T, hT1, hT2, hT3⟩ := hT
      have hzr := HZ.out
      unfold i64R at hzr
      obtain ⟨mv, ev, hmv, CX⟩ := RExc_any z T o.level (by omega) hT2 HLX.out.1 HLX.out.2
      have HM : Hid (BH - 1 ≠ AH → mv = true) := Lib.hid (fun hne => by
        obtain ⟨v1, v2⟩ := HV.out hne
        have h1 := HZV.out hne
        have h2 := (HGr.out v1 N).1
        rw [hmv (by rw [h1]; exact h2), h1, hT3 v1]
        exact v2)
      have CU : ∀ w, w0.grownBy w none → Calls Tryz.prog 30 #[.slice x.na x.nn x.nc] w fun e w' => e = .returned (.int .i64 SN) ∧ w' = w := fun w g => (CN.out w g).mono (fun e w' h => ⟨by rw [h.1, hSN], h.2.symm⟩)
      replace CX := Lib.hid CX; replace CU := Lib.hid CU
      have HT1 := Lib.hid hT1
      have HFF := Lib.hid HFk.out
      clear hf2 hN20 fr ht htp htl hSN hT1 hT2 hT3 hzr hmv HFk HZ HZV hlt hk
      go_wp2_with (first | ((with_reducible refine @wpList_at _ _ _ _ _ _ _ (.load 26 (.tmp 50)) rfl ?_); refine @wpList_own_cell _ _ _ _ _ _ _ _ _ 26 (.tmp 50) rfl O 0 bb 197 rfl _ _ rfl _ GS.out _ Tryz.underlying26 rfl rfl ?_) | ((with_reducible refine @wpList_at _ _ _ _ _ _ _ (.load 25 (.tmp 105)) rfl ?_); refine @wpList_own_part _ _ _ _ _ _ _ _ _ 25 (.tmp 105) rfl O 0 bb 0 rfl _ _ rfl y.header.cells _ (fun h => LtR.hdr_at h YW.out) Tryz.underlying25 rfl (sizeHeader _ (y.header.cells_length YW.out.header)) rfl ?_))
      refine (CH.out _).mono ?_
      rintro e w ⟨rfl, g⟩
      replace O := O.call g
      clear g
      go_wp2_with (first | ((with_reducible refine @wpList_at _ _ _ _ _ _ _ (.alloc 23) rfl ?_); refine @wpList_own_alloc _ _ _ _ _ _ _ _ _ 23 rfl ZH ZH_info O rfl ?_; clear O; intro bh w O) | ((with_reducible refine @wpList_at _ _ _ _ _ _ _ (.store 23 (.tmp 17) (.tmp 108)) rfl ?_); refine @wpList_own_store _ _ _ _ _ _ _ _ _ 23 (.tmp 17) (.tmp 108) rfl O 0 bh rfl (Lib.byteCells X1) ZH _ rfl rfl (by rw [Lib.byteCells_length, L1.out]; rfl) (oneCell_bytes _) (sizeH _ (by rw [Lib.byteCells_length, L1.out])) rfl ?_; clear O; intro w O; simp only [List.set_cons_zero] at O) | ((with_reducible refine @wpList_at _ _ _ _ _ _ _ (.load 29 (.tmp 111)) rfl ?_); refine @wpList_own_cell _ _ _ _ _ _ _ _ _ 29 (.tmp 111) rfl O 1 bb 198 rfl _ _ rfl _ G8.out _ Tryz.underlying29 rfl rfl ?_))
      refine (CV.out _ O.grown).mono ?_
      rintro e w ⟨rfl, g⟩
      replace O := O.call g
      clear g
      go_wp2_with (first | ((with_reducible refine @wpList_at _ _ _ _ _ _ _ (.alloc 23) rfl ?_); refine @wpList_own_alloc _ _ _ _ _ _ _ _ _ 23 rfl ZH ZH_info O rfl ?_; clear O; intro bg w O) | ((with_reducible refine @wpList_at _ _ _ _ _ _ _ (.store 23 (.tmp 19) (.tmp 114)) rfl ?_); refine @wpList_own_store _ _ _ _ _ _ _ _ _ 23 (.tmp 19) (.tmp 114) rfl O 0 bg rfl (Lib.byteCells X2) ZH _ rfl rfl (by rw [Lib.byteCells_length, L2.out]; rfl) (oneCell_bytes _) (sizeH _ (by rw [Lib.byteCells_length, L2.out])) rfl ?_; clear O; intro w O; simp only [List.set_cons_zero] at O) | ((with_reducible refine @wpList_at _ _ _ _ _ _ _ (.load 29 (.tmp 116)) rfl ?_); refine @wpList_own_cell _ _ _ _ _ _ _ _ _ 29 (.tmp 116) rfl O 2 bb 198 rfl _ _ rfl _ G8.out _ Tryz.underlying29 rfl rfl ?_))
      refine (CB.out _ O.grown).mono ?_
      rintro e w2 ⟨rfl, rfl⟩
      go_upto_region 22 with (fail)
      have c199 := (O.at_ 3 rfl).row 199 _ G9.out
      have c0 := (O.at_ 4 rfl).row 0 _ rfl
      rw [Nat.zero_add] at c199 c0
      have hT1 := HT1.out
      replace O := O.drew
      refine wp_region_J (rdf [(2, ba, 199, [(.slice x.na x.nn x.nc)]), (6, bo, 0, [(.float .f64 o.level)])]) [3, 7] (by kernel_rfl) (RdA.cons (RowAt.one c199) (RdA.cons (RowAt.one c0) RdA.nil)) (fun hH => ?_)
      refine wpAnyJ_pure (i := 0) (v := (.int .i64 z)) rfl (by kernel_rfl) (by kernel_rfl) (by kernel_rfl) (fun _ _ _ h => h) (by rfl) (Or.inl ⟨by rfl, fun W _ => by go_simp⟩) (Still.all hH) ?_
      simp only [Act.put, List.getElem_toArray, List.getElem_cons_zero, List.setIfInBounds_toArray, List.set_cons_zero, List.set_cons_succ]
      refine wpAnyJ_pure (i := 1) (v := (.pointer (some ⟨ba, 199, none⟩))) rfl (by kernel_rfl) (by kernel_rfl) (by kernel_rfl) (fun _ _ _ h => h) (by rfl) (Or.inl ⟨by rfl, fun W _ => by go_simp⟩) (Still.all hH) ?_
      simp only [Act.put, List.getElem_toArray, List.getElem_cons_succ, List.getElem_cons_zero, List.setIfInBounds_toArray, List.set_cons_zero, List.set_cons_succ]
      refine wpAnyJ_read 0 (i := 2) (v := (.slice x.na x.nn x.nc)) rfl rfl (by kernel_rfl) (by kernel_rfl) (by kernel_rfl) (fun _ _ _ h => h) (by rfl) (yields_cell (by rfl) 29 _ rfl ba 199 rfl (.slice x.na x.nn x.nc) _ (fun W h => h) Tryz.underlying29 rfl) (Still.all hH) ?_
      simp only [Act.put, List.getElem_toArray, List.getElem_cons_succ, List.getElem_cons_zero, List.setIfInBounds_toArray, List.set_cons_zero, List.set_cons_succ]
      refine wpAnyJ_pure (i := 5) (v := (.pointer (some ⟨bo, 0, none⟩))) rfl (by kernel_rfl) (by kernel_rfl) (by kernel_rfl) (fun _ _ _ h => h) (by rfl) (Or.inl ⟨by rfl, fun W _ => by go_simp⟩) (Still.all hH) ?_
      simp only [Act.put, List.getElem_toArray, List.getElem_cons_succ, List.getElem_cons_zero, List.setIfInBounds_toArray, List.set_cons_zero, List.set_cons_succ]
      refine wpAnyJ_read 1 (i := 6) (v := (.float .f64 o.level)) rfl rfl (by kernel_rfl) (by kernel_rfl) (by kernel_rfl) (fun _ _ _ h => h) (by rfl) (yields_cell (by rfl) 33 _ rfl bo 0 rfl (.float .f64 o.level) _ (fun W h => h) Tryz.underlying33 rfl) (Still.all hH) ?_
      simp only [Act.put, List.getElem_toArray, List.getElem_cons_succ, List.getElem_cons_zero, List.setIfInBounds_toArray, List.set_cons_zero, List.set_cons_succ]
      refine wpAnyJ_ready (rs := [3]) (by kernel_rfl) (by simp) ?_
      refine AllJ.keep rfl (by rfl) (by rfl) (fun K hK => ?_) (AllJ.nil)
      refine wp_call 30 _ _ (by rfl) (enters Tryz.func30 (by kernel_rfl) rfl) (by rfl) (CU.out _ O.grown) ?_
      rintro e u ⟨rfl, rfl⟩
      refine ⟨_, rfl, ?_⟩
      simp only [Act.put, List.getElem_toArray, List.getElem_cons_succ, List.getElem_cons_zero, List.setIfInBounds_toArray, List.set_cons_zero, List.set_cons_succ]
      refine hK.out _ _ hH ?_
      clear hK K
      refine wpAnyJ_pure (i := 4) (v := (.int .i64 (T : Int))) rfl (by kernel_rfl) (by kernel_rfl) (by kernel_rfl) (fun _ _ _ h => h) (by rfl) (Or.inl ⟨by rfl, fun W _ => by go_simp⟩) (Still.all hH) ?_
      simp only [Act.put, List.getElem_toArray, List.getElem_cons_succ, List.getElem_cons_zero, List.setIfInBounds_toArray, List.set_cons_zero, List.set_cons_succ]
      refine wpAnyJ_ready (rs := [7]) (by kernel_rfl) (by simp) ?_
      refine AllJ.keep rfl (by rfl) (by rfl) (fun K hK => ?_) (AllJ.nil)
      refine wp_call 31 _ _ (by rfl) (enters Tryz.func31 (by kernel_rfl) rfl) (by rfl) (CX.out _) ?_
      rintro e u ⟨rfl, rfl⟩
      refine ⟨_, rfl, ?_⟩
      simp only [Act.put, List.getElem_toArray, List.getElem_cons_succ, List.getElem_cons_zero, List.setIfInBounds_toArray, List.set_cons_zero, List.set_cons_succ]
      refine hK.out _ _ hH ?_
      clear hK K
      refine wpAnyJ_pure (i := 8) (v := (.tuple #[.bool mv, .int .i64 ev])) rfl (by kernel_rfl) (by kernel_rfl) (by kernel_rfl) (fun _ _ _ h => h) (by rfl) (Or.inl ⟨by rfl, fun W _ => by go_simp⟩) (Still.all hH) ?_
      simp only [Act.put, List.getElem_toArray, List.getElem_cons_succ, List.getElem_cons_zero, List.setIfInBounds_toArray, List.set_cons_zero, List.set_cons_succ]
      refine wpAnyJ_pure (i := 9) (v := (.bool mv)) rfl (by kernel_rfl) (by kernel_rfl) (by kernel_rfl) (fun _ _ _ h => h) (by rfl) (Or.inl ⟨by rfl, fun W _ => by go_simp⟩) (Still.all hH) ?_
      simp only [Act.put, List.getElem_toArray, List.getElem_cons_succ, List.getElem_cons_zero, List.setIfInBounds_toArray, List.set_cons_zero, List.set_cons_succ]
      refine wpAnyJ_pure (i := 10) (v := (.int .i64 ev)) rfl (by kernel_rfl) (by kernel_rfl) (by kernel_rfl) (fun _ _ _ h => h) (by rfl) (Or.inl ⟨by rfl, fun W _ => by go_simp⟩) (Still.all hH) ?_
      simp only [Act.put, List.getElem_toArray, List.getElem_cons_succ, List.getElem_cons_zero, List.setIfInBounds_toArray, List.set_cons_zero, List.set_cons_succ]
      refine wpAnyJ_pure (i := 11) (v := (.bool mv)) rfl (by kernel_rfl) (by kernel_rfl) (by kernel_rfl) (fun _ _ _ h => h) (by rfl) (Or.inl ⟨by rfl, fun W _ => by go_simp⟩) (Still.all hH) ?_
      simp only [Act.put, List.getElem_toArray, List.getElem_cons_succ, List.getElem_cons_zero, List.setIfInBounds_toArray, List.set_cons_zero, List.set_cons_succ]
      refine wpAnyJ_pure (i := 12) (v := (.int .i64 ev)) rfl (by kernel_rfl) (by kernel_rfl) (by kernel_rfl) (fun _ _ _ h => h) (by rfl) (Or.inl ⟨by rfl, fun W _ => by go_simp⟩) (Still.all hH) ?_
      simp only [Act.put, List.getElem_toArray, List.getElem_cons_succ, List.getElem_cons_zero, List.setIfInBounds_toArray, List.set_cons_zero, List.set_cons_succ]
      refine wpAnyJ_done (by kernel_rfl) ?_ _
      clear c199 c0 hT1 hH
      have hh := HH.out; have e1 := HE1.out
      unfold i64R at hh
      have ew := IntWalk.i64_in (AH + 1) (by omega)
      have e2 := HE2.out
      have d7 : decide (AH < BH) = true := decide_eq_true e1
      have d8 : decide (AT < BT) = true := decide_eq_true e2
      rcases HTR.out with ⟨t1, t2⟩ | t1
      · have d4 : (BH == AH + 1) = true := by simp; omega
        have N0 := Lib.hid (veq_self t2)
        clear t1 t2 e1 e2 hh
        go_wp2_with (first | ((with_reducible refine @wpList_at _ _ _ _ _ _ _ (.load 3 (.tmp 131)) rfl ?_); refine @wpList_own_cell _ _ _ _ _ _ _ _ _ 3 (.tmp 131) rfl O 2 bb 1 rfl _ _ rfl _ Q1.out _ Tryz.underlying3 rfl rfl ?_) | ((with_reducible refine @wpList_at _ _ _ _ _ _ _ (.load 3 (.tmp 134)) rfl ?_); refine @wpList_own_cell _ _ _ _ _ _ _ _ _ 3 (.tmp 134) rfl O 3 ba 1 rfl _ _ rfl _ P1.out _ Tryz.underlying3 rfl rfl ?_) | ((with_reducible refine @wpList_at _ _ _ _ _ _ _ (.load 23 (.tmp 140)) rfl ?_); refine @wpList_own_part _ _ _ _ _ _ _ _ _ 23 (.tmp 140) rfl O 2 bb 35 rfl _ _ rfl (Lib.byteCells y.header.set) _ (fun h => LtR.hset_at h YW.out) Tryz.underlying23 rfl (sizeH _ (by rw [Lib.byteCells_length, YW.out.header.set])) rfl ?_) | ((with_reducible refine @wpList_at _ _ _ _ _ _ _ (.load 23 (.tmp 143)) rfl ?_); refine @wpList_own_part _ _ _ _ _ _ _ _ _ 23 (.tmp 143) rfl O 3 ba 67 rfl _ _ rfl (Lib.byteCells x.header.next) _ (fun h => LtR.hnext_at h XW.out) Tryz.underlying23 rfl (sizeH _ (by rw [Lib.byteCells_length, XW.out.header.next])) rfl ?_) | ((with_reducible refine @wpList_at _ _ _ _ _ _ _ (.binOp .eql 23 (.tmp 141) (.tmp 144) 23) rfl ?_); refine @wpList_eql_own _ _ _ _ _ _ _ 23 _ (.tmp 141) (.tmp 144) rfl (Lib.byteCells y.header.set) (Lib.byteCells x.header.next) kHash rfl rfl hash_flat (hash_fits _ YW.out.header.set) (hash_fits _ XW.out.header.next) rfl (by kernel_rfl) rfl ?_; rw [N0.out]))
        refine (CA.out _ O.grown).mono ?_
        rintro e w ⟨rfl, g⟩
        replace O := O.call g
        clear g
        go_wp2_with (first | ((with_reducible refine @wpList_at _ _ _ _ _ _ _ (.load 23 (.tmp 150)) rfl ?_); refine @wpList_own_part _ _ _ _ _ _ _ _ _ 23 (.tmp 150) rfl O 2 bb 165 rfl _ _ rfl (Lib.byteCells y.block) _ (fun h => LtR.cblk_at h YW.out) Tryz.underlying23 rfl (sizeH _ (by rw [Lib.byteCells_length, YW.out.block])) rfl ?_) | ((with_reducible refine @wpList_at _ _ _ _ _ _ _ (.load 23 (.tmp 17)) rfl ?_); refine @wpList_own_whole _ _ _ _ _ _ _ _ _ 23 (.tmp 17) rfl O 1 bh rfl (Lib.byteCells X1) _ rfl _ Tryz.underlying23 rfl (sizeH _ (by rw [Lib.byteCells_length, L1.out])) rfl ?_) | ((with_reducible refine @wpList_at _ _ _ _ _ _ _ (.binOp .eql 23 (.tmp 151) (.tmp 152) 23) rfl ?_); refine @wpList_eql_own _ _ _ _ _ _ _ 23 _ (.tmp 151) (.tmp 152) rfl (Lib.byteCells y.block) (Lib.byteCells X1) kHash rfl rfl hash_flat (hash_fits _ YW.out.block) (hash_fits _ L1.out) rfl (by kernel_rfl) rfl ?_; rw [N1.out]) | ((with_reducible refine @wpList_at _ _ _ _ _ _ _ (.load 23 (.tmp 157)) rfl ?_); refine @wpList_own_part _ _ _ _ _ _ _ _ _ 23 (.tmp 157) rfl O 2 bb 35 rfl _ _ rfl (Lib.byteCells y.header.set) _ (fun h => LtR.hset_at h YW.out) Tryz.underlying23 rfl (sizeH _ (by rw [Lib.byteCells_length, YW.out.header.set])) rfl ?_) | ((with_reducible refine @wpList_at _ _ _ _ _ _ _ (.load 23 (.tmp 19)) rfl ?_); refine @wpList_own_whole _ _ _ _ _ _ _ _ _ 23 (.tmp 19) rfl O 0 bg rfl (Lib.byteCells X2) _ rfl _ Tryz.underlying23 rfl (sizeH _ (by rw [Lib.byteCells_length, L2.out])) rfl ?_) | ((with_reducible refine @wpList_at _ _ _ _ _ _ _ (.binOp .eql 23 (.tmp 158) (.tmp 159) 23) rfl ?_); refine @wpList_eql_own _ _ _ _ _ _ _ 23 _ (.tmp 158) (.tmp 159) rfl (Lib.byteCells y.header.set) (Lib.byteCells X2) kHash rfl rfl hash_flat (hash_fits _ YW.out.header.set) (hash_fits _ L2.out) rfl (by kernel_rfl) rfl ?_; rw [N2.out]) | ((with_reducible refine @wpList_at _ _ _ _ _ _ _ (.load 9 (.tmp 181)) rfl ?_); refine @wpList_own_cell _ _ _ _ _ _ _ _ _ 9 (.tmp 181) rfl O 2 bb 0 rfl _ _ rfl _ Q0.out _ Tryz.underlying9 rfl rfl ?_) | ((with_reducible refine @wpList_at _ _ _ _ _ _ _ (.load 9 (.tmp 184)) rfl ?_); refine @wpList_own_cell _ _ _ _ _ _ _ _ _ 9 (.tmp 184) rfl O 3 ba 0 rfl _ _ rfl _ P0.out _ Tryz.underlying9 rfl rfl ?_) | ((with_reducible refine @wpList_at _ _ _ _ _ _ _ (.load 3 (.tmp 190)) rfl ?_); refine @wpList_own_cell _ _ _ _ _ _ _ _ _ 3 (.tmp 190) rfl O 2 bb 1 rfl _ _ rfl _ Q1.out _ Tryz.underlying3 rfl rfl ?_) | ((with_reducible refine @wpList_at _ _ _ _ _ _ _ (.load 3 (.tmp 193)) rfl ?_); refine @wpList_own_cell _ _ _ _ _ _ _ _ _ 3 (.tmp 193) rfl O 3 ba 1 rfl _ _ rfl _ P1.out _ Tryz.underlying3 rfl rfl ?_) | ((with_reducible refine @wpList_at _ _ _ _ _ _ _ (.load 3 (.tmp 199)) rfl ?_); refine @wpList_own_cell _ _ _ _ _ _ _ _ _ 3 (.tmp 199) rfl O 2 bb 2 rfl _ _ rfl _ Q2.out _ Tryz.underlying3 rfl rfl ?_) | ((with_reducible refine @wpList_at _ _ _ _ _ _ _ (.load 3 (.tmp 202)) rfl ?_); refine @wpList_own_cell _ _ _ _ _ _ _ _ _ 3 (.tmp 202) rfl O 3 ba 2 rfl _ _ rfl _ P2.out _ Tryz.underlying3 rfl rfl ?_))
        go_ret
        exact ⟨rfl, O.grown⟩
      · have d4 : (BH == AH + 1) = false := by simp; omega
        have hm := HM.out t1
        subst hm
        clear t1 e1 e2 hh
        go_wp2_with (first | ((with_reducible refine @wpList_at _ _ _ _ _ _ _ (.load 3 (.tmp 131)) rfl ?_); refine @wpList_own_cell _ _ _ _ _ _ _ _ _ 3 (.tmp 131) rfl O 2 bb 1 rfl _ _ rfl _ Q1.out _ Tryz.underlying3 rfl rfl ?_) | ((with_reducible refine @wpList_at _ _ _ _ _ _ _ (.load 3 (.tmp 134)) rfl ?_); refine @wpList_own_cell _ _ _ _ _ _ _ _ _ 3 (.tmp 134) rfl O 3 ba 1 rfl _ _ rfl _ P1.out _ Tryz.underlying3 rfl rfl ?_) | ((with_reducible refine @wpList_at _ _ _ _ _ _ _ (.load 23 (.tmp 140)) rfl ?_); refine @wpList_own_part _ _ _ _ _ _ _ _ _ 23 (.tmp 140) rfl O 2 bb 35 rfl _ _ rfl (Lib.byteCells y.header.set) _ (fun h => LtR.hset_at h YW.out) Tryz.underlying23 rfl (sizeH _ (by rw [Lib.byteCells_length, YW.out.header.set])) rfl ?_) | ((with_reducible refine @wpList_at _ _ _ _ _ _ _ (.load 23 (.tmp 143)) rfl ?_); refine @wpList_own_part _ _ _ _ _ _ _ _ _ 23 (.tmp 143) rfl O 3 ba 67 rfl _ _ rfl (Lib.byteCells x.header.next) _ (fun h => LtR.hnext_at h XW.out) Tryz.underlying23 rfl (sizeH _ (by rw [Lib.byteCells_length, XW.out.header.next])) rfl ?_) | ((with_reducible refine @wpList_at _ _ _ _ _ _ _ (.binOp .eql 23 (.tmp 141) (.tmp 144) 23) rfl ?_); refine @wpList_eql_own _ _ _ _ _ _ _ 23 _ (.tmp 141) (.tmp 144) rfl (Lib.byteCells y.header.set) (Lib.byteCells x.header.next) kHash rfl rfl hash_flat (hash_fits _ YW.out.header.set) (hash_fits _ XW.out.header.next) rfl (by kernel_rfl) rfl ?_; rw [N0.out]))
        refine (CA.out _ O.grown).mono ?_
        rintro e w ⟨rfl, g⟩
        replace O := O.call g
        clear g
        go_wp2_with (first | ((with_reducible refine @wpList_at _ _ _ _ _ _ _ (.load 23 (.tmp 150)) rfl ?_); refine @wpList_own_part _ _ _ _ _ _ _ _ _ 23 (.tmp 150) rfl O 2 bb 165 rfl _ _ rfl (Lib.byteCells y.block) _ (fun h => LtR.cblk_at h YW.out) Tryz.underlying23 rfl (sizeH _ (by rw [Lib.byteCells_length, YW.out.block])) rfl ?_) | ((with_reducible refine @wpList_at _ _ _ _ _ _ _ (.load 23 (.tmp 17)) rfl ?_); refine @wpList_own_whole _ _ _ _ _ _ _ _ _ 23 (.tmp 17) rfl O 1 bh rfl (Lib.byteCells X1) _ rfl _ Tryz.underlying23 rfl (sizeH _ (by rw [Lib.byteCells_length, L1.out])) rfl ?_) | ((with_reducible refine @wpList_at _ _ _ _ _ _ _ (.binOp .eql 23 (.tmp 151) (.tmp 152) 23) rfl ?_); refine @wpList_eql_own _ _ _ _ _ _ _ 23 _ (.tmp 151) (.tmp 152) rfl (Lib.byteCells y.block) (Lib.byteCells X1) kHash rfl rfl hash_flat (hash_fits _ YW.out.block) (hash_fits _ L1.out) rfl (by kernel_rfl) rfl ?_; rw [N1.out]) | ((with_reducible refine @wpList_at _ _ _ _ _ _ _ (.load 23 (.tmp 157)) rfl ?_); refine @wpList_own_part _ _ _ _ _ _ _ _ _ 23 (.tmp 157) rfl O 2 bb 35 rfl _ _ rfl (Lib.byteCells y.header.set) _ (fun h => LtR.hset_at h YW.out) Tryz.underlying23 rfl (sizeH _ (by rw [Lib.byteCells_length, YW.out.header.set])) rfl ?_) | ((with_reducible refine @wpList_at _ _ _ _ _ _ _ (.load 23 (.tmp 19)) rfl ?_); refine @wpList_own_whole _ _ _ _ _ _ _ _ _ 23 (.tmp 19) rfl O 0 bg rfl (Lib.byteCells X2) _ rfl _ Tryz.underlying23 rfl (sizeH _ (by rw [Lib.byteCells_length, L2.out])) rfl ?_) | ((with_reducible refine @wpList_at _ _ _ _ _ _ _ (.binOp .eql 23 (.tmp 158) (.tmp 159) 23) rfl ?_); refine @wpList_eql_own _ _ _ _ _ _ _ 23 _ (.tmp 158) (.tmp 159) rfl (Lib.byteCells y.header.set) (Lib.byteCells X2) kHash rfl rfl hash_flat (hash_fits _ YW.out.header.set) (hash_fits _ L2.out) rfl (by kernel_rfl) rfl ?_; rw [N2.out]) | ((with_reducible refine @wpList_at _ _ _ _ _ _ _ (.load 9 (.tmp 181)) rfl ?_); refine @wpList_own_cell _ _ _ _ _ _ _ _ _ 9 (.tmp 181) rfl O 2 bb 0 rfl _ _ rfl _ Q0.out _ Tryz.underlying9 rfl rfl ?_) | ((with_reducible refine @wpList_at _ _ _ _ _ _ _ (.load 9 (.tmp 184)) rfl ?_); refine @wpList_own_cell _ _ _ _ _ _ _ _ _ 9 (.tmp 184) rfl O 3 ba 0 rfl _ _ rfl _ P0.out _ Tryz.underlying9 rfl rfl ?_) | ((with_reducible refine @wpList_at _ _ _ _ _ _ _ (.load 3 (.tmp 190)) rfl ?_); refine @wpList_own_cell _ _ _ _ _ _ _ _ _ 3 (.tmp 190) rfl O 2 bb 1 rfl _ _ rfl _ Q1.out _ Tryz.underlying3 rfl rfl ?_) | ((with_reducible refine @wpList_at _ _ _ _ _ _ _ (.load 3 (.tmp 193)) rfl ?_); refine @wpList_own_cell _ _ _ _ _ _ _ _ _ 3 (.tmp 193) rfl O 3 ba 1 rfl _ _ rfl _ P1.out _ Tryz.underlying3 rfl rfl ?_) | ((with_reducible refine @wpList_at _ _ _ _ _ _ _ (.load 3 (.tmp 199)) rfl ?_); refine @wpList_own_cell _ _ _ _ _ _ _ _ _ 3 (.tmp 199) rfl O 2 bb 2 rfl _ _ rfl _ Q2.out _ Tryz.underlying3 rfl rfl ?_) | ((with_reducible refine @wpList_at _ _ _ _ _ _ _ (.load 3 (.tmp 202)) rfl ?_); refine @wpList_own_cell _ _ _ _ _ _ _ _ _ 3 (.tmp 202) rfl O 3 ba 2 rfl _ _ rfl _ P2.out _ Tryz.underlying3 rfl rfl ?_))
        go_ret
        exact ⟨rfl, O.grown⟩

end Go.Proofs.YtdhchehagfmjcaaGreatDoor
