import Derived.Test.YtdhchehagfmjcaaGreatDoorSame
import Derived.Test.YtdhchehagfmjcaaGreatDoorBs
import Derived.Test.YtdhchehagfmjcaaGreatDoorAl
import Derived.Test.YtdhchehagfmjcaaGreatDoorBt
import Derived.Deep.CutBlock
namespace Go.Proofs.YtdhchehagfmjcaaGreatDoor
open Go.RowKit
set_option maxRecDepth 100000
theorem sameL_self {D : Type} (f : D → List Value) (h : ∀ d, VEq (f d) (f d) = true) (l : List D) : sameL f l l = true := by
 have : ∀ xs : List D, VEq (xs.flatMap f) (xs.flatMap f) = true := by
  intro xs; induction xs with
  | nil => rfl
  | cons x xs ih => rw [List.flatMap_cons, VEq.append rfl, ih, h]; rfl
 unfold sameL; rw [this]; simp
theorem sameLight_self (l : LightD) : sameLight l l = true := by
 have h1 : VEq l.header.cells l.header.cells = true := by
  unfold HeaderD.cells
  rw [VEq.append rfl, VEq.append rfl, VEq.append rfl, VEq.append rfl, VEq.append rfl]
  simp [VEq.bytes, VEq, KEq]
 have h2 := fun (d : ValD) => show VEq d.cells d.cells = true by simp [ValD.cells, VEq, KEq]
 have h3 := fun (d : SealD) => show VEq d.cells d.cells = true by simp [SealD.cells, VEq, KEq]
 unfold sameLight sameCommit
 rw [h1, sameL_self _ h2, sameL_self _ h2, sameL_self _ h3, VEq.bytes]; simp
structure ActD where
 kind : Int
 n : Int
 i : Int
 now : Nat
def ActD.cells (a : ActD) : List Value := [.int .i64 a.kind, .int .i64 a.n, .int .i64 a.i, .float .f64 a.now]
structure ActD.wf (a : ActD) : Prop where
 kind : i64R a.kind
 n : i64R a.n
 i : i64R a.i
 now : a.now < 18446744073709551616
def actsCells (l : List ActD) : List Value := l.flatMap ActD.cells
theorem sizeAct (a : ActD) : (Tryz.prog.info? 78).map (·.size) = some a.cells.length := rfl
theorem ActD_one (a : ActD) : ∀ v ∈ a.cells, v.oneCell' = true := by simp [ActD.cells, Value.oneCell']
def ZAct : List Value := [.int .i64 0, .int .i64 0, .int .i64 0, .float .f64 0]
theorem ZAct_info : (Tryz.prog.info? 78).map (fun i => i.zero.map (fun v => v.cells)) = some (some ZAct.toArray) := by kernel_rfl
theorem lts_at {B : Nat} {w : World} {v : Value} {xs : List LtR} (h : RdS B w v xs.length 200 (ltsCells xs)) (hw : ∀ x ∈ xs, x.wf) (k : Nat) (hk : k < xs.length) : ∃ g o c, v = .slice (some ⟨g, o, none⟩) xs.length c ∧ g < B ∧ RowAt w g (o + k * 200) xs[k].cells := by
 obtain ⟨ao, c, rfl, _, _, hlen, h0 | ⟨g, o, rfl, hg, hr⟩⟩ := h
 ·omega
 ·refine ⟨g, o, c, rfl, hg, ?_⟩
  refine RowAt.elem hr (fun d hd => d.cells_length (hw d hd)) k hk
theorem acts_at {B : Nat} {w : World} {v : Value} {s : List ActD} (h : RdS B w v s.length 4 (actsCells s)) (k : Nat) (hk : k < s.length) : ∃ g o c, v = .slice (some ⟨g, o, none⟩) s.length c ∧ g < B ∧ RowAt w g (o + k * 4) s[k].cells := by
 obtain ⟨ao, c, rfl, _, _, hlen, h0 | ⟨g, o, rfl, hg, hr⟩⟩ := h
 ·omega
 ·exact ⟨g, o, c, rfl, hg, RowAt.elem hr (fun d _ => rfl) k hk⟩
set_option maxHeartbeats 2000000 in
theorem few_ok {B : Nat} (v : Value) (xs : List LtR) (w0 : World) (hr : RdS B w0 v xs.length 200 (ltsCells xs)) (hw : ∀ x ∈ xs, x.wf) :
  Calls Tryz.prog 32 #[v] w0 fun e w' => e = .returned (.bool (decide (xs.length ≤ 14) && xs.all fewLt)) ∧ w0.grownBy w' none := by
 have HA := Lib.hid (fun k hk => lts_at hr hw k hk)
 obtain ⟨ao, cp, rfl, hle, hcm, _, _⟩ := hr
 have HW := Lib.hid hw
 unfold maxLen at hcm
 obtain ⟨n, hn⟩ : ∃ n, xs.length = n := ⟨_, rfl⟩
 obtain ⟨R, hR⟩ : ∃ r, (decide (xs.length ≤ 14) && xs.all fewLt) = r := ⟨_, rfl⟩
 rw [hR]
 rw [hn] at hle hR
 have HN := Lib.hid hn; have HR := Lib.hid hR
 rw [hn]
 clear hw hn hR
 by_cases c14 : 14 < n
 ·have hR : R = false := by rw [← HR.out, decide_eq_false (by omega)]; rfl
  have HR2 := Lib.hid hR
  clear hR
  go_enter Tryz.func32, Tryz.ntmps32
  go_wp2
  go_ret
  exact ⟨ret_b HR2.out, gb_refl _⟩
 have c14b : ¬ (14 : Int) < (n : Int) := by omega
 go_enter Tryz.func32, Tryz.ntmps32
 go_wp2
 go_loopw [3] (fun i wr => ∃ k : Nat, k ≤ n ∧ i = .int .i64 k ∧ (xs.take k).all fewLt = true ∧ w0.grownBy wr none) (fun i _ => n - (intOf i).toNat)
 case atStart => exact ⟨0, Nat.zero_le _, rfl, rfl, gb_refl _⟩
 case round =>
  obtain ⟨k, hk, rfl, he, hg⟩ := hrel
  have HE := Lib.hid he; have HG := Lib.hid hg
  clear he hg
  by_cases hlt : k < n
  ·have hkx : k < xs.length := by rw [HN.out]; exact hlt
   obtain ⟨g, o, c, hv, hgB, hrow⟩ := HA.out k hkx
   rw [HN.out] at hv
   have e1 := (Value.slice.inj hv).1
   subst e1
   have FX := Lib.hid (hrow.grown HG.out (by simp))
   obtain ⟨x, hx⟩ : ∃ x, xs[k] = x := ⟨_, rfl⟩
   rw [hx] at FX
   have XW := Lib.hid (show x.wf from hx ▸ HW.out _ (List.getElem_mem hkx))
   have CF := Lib.hid (fun w => Few_ok x w XW.out)
   have HT := Lib.hid (show xs.take (k + 1) = xs.take k ++ [x] by rw [List.take_add_one, List.getElem?_eq_getElem hkx, hx]; rfl)
   have HX := Lib.hid (show x ∈ xs from hx ▸ List.getElem_mem hkx)
   obtain ⟨q, hq⟩ : ∃ q, fewLt x = q := ⟨_, rfl⟩
   rw [hq] at CF
   have HQ := Lib.hid hq
   clear hrow hx hq hv hkx
   go_wp2_with (first | ((with_reducible refine @wpList_at _ _ _ _ _ _ _ (.load 31 (.tmp 16)) rfl ?_); refine wpList_load_part rfl 31 _ rfl g ((o + k * 200)) rfl x.cells _ FX.out Tryz.underlying31 rfl (sizeLt _ XW.out) ?_))
   refine (CF.out _).mono ?_
   rintro e u ⟨rfl, g1⟩
   have HG2 := Lib.hid (HG.out.trans g1)
   clear g1
   cases q with
   | true =>
    go_wp2
    exact ⟨⟨k + 1, by omega, by go_num, by rw [HT.out, List.all_append, HE.out]; simp [HQ.out], HG2.out⟩, by simp [intOf]; omega⟩
   | false =>
    have hR : R = false := by
     rw [← HR.out]
     have : xs.all fewLt = false := by
      rw [List.all_eq_false]
      exact ⟨x, HX.out, by rw [HQ.out]; decide⟩
     rw [this, Bool.and_false]
    have HR2 := Lib.hid hR
    clear hR
    go_wp2
    go_ret
    exact ⟨ret_b HR2.out, HG2.out⟩
  ·obtain rfl : k = n := by omega
   have hR : R = true := by
    rw [← HR.out, decide_eq_true (by omega)]
    have h := HE.out
    rwa [List.take_of_length_le (by rw [HN.out]; exact Nat.le_refl _)] at h
   have HR2 := Lib.hid hR
   clear hR
   go_wp2
   go_ret
   exact ⟨ret_b HR2.out, HG.out⟩
set_option maxHeartbeats 2000000 in
theorem same_ok {I J : Nat → Prop} {a b : Option Addr} {n m c d : Nat} {ls : List LightD} (w0 : World) (ha : LRow I w0 (.slice a n c) ls) (hb : LRow J w0 (.slice b m d) ls) :
  Calls Tryz.prog 41 #[.slice a n c, .slice b m d] w0 fun e w' => e = .returned (.bool true) ∧ w0.grownBy w' none := by
 have HA := Lib.hid ha; have HB := Lib.hid hb
 obtain ⟨a2, c2, e, hc1, hc2⟩ := ha.shape
 obtain ⟨b2, d2, e2, hd1, hd2⟩ := hb.shape
 obtain rfl := (Value.slice.inj e).2.1; obtain rfl := (Value.slice.inj e).2.2
 obtain rfl := (Value.slice.inj e2).2.1; obtain rfl := (Value.slice.inj e2).2.2
 unfold maxLen at hc2 hd2
 obtain ⟨N, hN⟩ : ∃ n, ls.length = n := ⟨_, rfl⟩
 rw [hN] at HA HB hc1 hd1
 rw [hN]
 have HN := Lib.hid hN
 clear ha hb e e2 hN a2 b2
 go_enter Tryz.func41, Tryz.ntmps41
 go_wp2
 go_loopw [5] (fun i wr => ∃ k : Nat, k ≤ N ∧ i = .int .i64 k ∧ w0.grownBy wr none) (fun i _ => N - (intOf i).toNat)
 case atStart => exact ⟨0, Nat.zero_le _, rfl, gb_refl _⟩
 case round =>
  obtain ⟨k, hk, rfl, hg⟩ := hrel
  have HG := Lib.hid hg
  clear hg
  by_cases hlt : k < N
  ·have hkx : k < ls.length := by rw [HN.out]; exact hlt
   obtain ⟨g, o, c', x, hv, _, _, _, hrow, hof, i1, hfit⟩ := (HA.out.grown HG.out).get k hkx
   obtain ⟨g', o', d', y, hv', _, _, _, hrow', hof', i2, f2⟩ := (HB.out.grown HG.out).get k hkx
   have e1 := (Value.slice.inj hv).1; have e2 := (Value.slice.inj hv').1
   subst e1 e2
   have XW := Lib.hid (hof.wf hfit.wf); have YW := Lib.hid (hof'.wf hfit.wf)
   have CS := Lib.hid (fun u (gg : wr.grownBy u none) => SameLight_any ls[k] ls[k] x.cells y.cells u (hof.up gg (Nat.le_refl _)).rep (hof'.up gg (Nat.le_refl _)).rep hfit.wf hfit.wf (Nat.le_refl _))
   rw [sameLight_self] at CS
   have FX := Lib.hid hrow; have FY := Lib.hid hrow'
   have hix : ¬ ((N : Int) ≤ (k : Int)) := by omega
   have O := OwF.start (fun _ => False) wr
   clear hrow hrow' hof hof' hfit hv hv' i1 i2 f2 hkx
   go_upto_region 6 with (fail)
   replace O := O.drew
   refine wp_region_J (rdf [(3, g, (o + k * 200), x.cells), (7, g', (o' + k * 200), y.cells)]) [8] (by kernel_rfl) (RdA.cons (FX.out.grown (O.tch.grown (fun _ h => h.elim)) (by simp)) (RdA.cons (FY.out.grown (O.tch.grown (fun _ h => h.elim)) (by simp)) RdA.nil)) (fun hH => ?_)
   refine jp 0 ((.slice (some ⟨g, o, none⟩) N c)) (Still.all hH) ?_
   simp only [Act.put, jq1, jq3, jq4, jq5, jq6]
   refine jp 1 ((.int .i64 (k : Int))) (Still.all hH) ?_
   simp only [Act.put, jq1, jq2, jq3, jq4, jq5, jq6]
   refine jp 2 ((.pointer (some ⟨g, o + k * 200, none⟩))) (Still.all hH) ?_
   simp only [Act.put, jq1, jq2, jq3, jq4, jq5, jq6]
   refine jr 0 3 ((.agg (x.cells).toArray)) rfl rfl (yieldsIf_load_mid (by rfl) 31 _ rfl g (o + k * 200) rfl x.cells _ (fun W h => h) Tryz.underlying31 rfl (sizeLt _ XW.out)) (Still.all hH) ?_
   simp only [Act.put, jq1, jq2, jq3, jq4, jq5, jq6]
   refine jp 4 ((.slice (some ⟨g', o', none⟩) N d)) (Still.all hH) ?_
   simp only [Act.put, jq1, jq2, jq3, jq4, jq5, jq6]
   refine jp 5 ((.int .i64 (k : Int))) (Still.all hH) ?_
   simp only [Act.put, jq1, jq2, jq3, jq4, jq5, jq6]
   refine jp 6 ((.pointer (some ⟨g', o' + k * 200, none⟩))) (Still.all hH) ?_
   simp only [Act.put, jq1, jq2, jq3, jq4, jq5, jq6]
   refine jr 1 7 ((.agg (y.cells).toArray)) rfl rfl (yieldsIf_load_mid (by rfl) 31 _ rfl g' (o' + k * 200) rfl y.cells _ (fun W h => h) Tryz.underlying31 rfl (sizeLt _ YW.out)) (Still.all hH) ?_
   simp only [Act.put, jq1, jq2, jq3, jq4, jq5, jq6]
   refine wpAnyJ_ready (rs := [8]) (by kernel_rfl) (by simp) ?_
   refine AllJ.keep rfl (by rfl) (by rfl) (fun K hK => ?_) (AllJ.nil)
   refine wp_call 78 _ _ (by rfl) (enters Tryz.func78 (by kernel_rfl) rfl) (by rfl) (CS.out _ (O.tch.grown (fun _ h => h.elim))) ?_
   rintro e u ⟨rfl, g1⟩
   refine ⟨_, rfl, ?_⟩
   replace O := O.call g1
   simp only [Act.put, jq1, jq2, jq3, jq4, jq5, jq6]
   refine hK.out _ _ (RdA.grown hH g1) ?_
   replace hH := RdA.grown hH g1
   clear hK K
   clear g1
   refine jp 9 ((.bool true)) (Still.all hH) ?_
   simp only [Act.put, jq1, jq2, jq3, jq4, jq5, jq6]
   refine wpAnyJ_done (by kernel_rfl) ?_ _
   clear hH
   go_wp2
   exact ⟨⟨k + 1, by omega, by go_num, HG.out.trans (O.tch.grown (fun _ h => h.elim))⟩, by simp [intOf]; omega⟩
  ·obtain rfl : k = N := by omega
   go_wp2
   go_ret
   exact ⟨rfl, HG.out⟩
theorem light_szz : (Tryz.prog.info? 31).map (·.size) = some ZLt0.length := by kernel_rfl
def zLt : LtR := ⟨⟨⟨#[]⟩, 0, 0, z32, z32, z32, z32, z32⟩, 0, 0, z32, none, 0, 0, none, 0, 0, none, 0, 0⟩
theorem zLt_cells : zLt.cells = ZLt0 := by kernel_rfl
theorem z32_len : z32.length = 32 := rfl
theorem zLt_wf : zLt.wf := ⟨⟨by decide, by unfold i64R; decide, by unfold i64R; decide, z32_len, z32_len, z32_len, z32_len, z32_len⟩, z32_len, by decide, by decide, by decide⟩
theorem bLight0 : Tryz.prog.built 31 [] = some ZLt0.toArray := by kernel_rfl
def GivenPost (xs : List LtR) (kind want : Int) (w : World) (e : Ending) (w' : World) : Prop :=
 w.grownBy w' none ∧ ∃ (x : LtR) (b : Bool), x.wf ∧ e = .returned (.tuple #[.agg x.cells.toArray, .bool b]) ∧ (b = true → x ∈ xs ∧ (kind ≠ 2 → x.header.height = want))
set_option maxHeartbeats 4000000 in
theorem given_ok {B : Nat} (a : ActD) (v : Value) (xs : List LtR) (want : Int) (w0 : World) (hr : RdS B w0 v xs.length 200 (ltsCells xs)) (hw : ∀ x ∈ xs, x.wf) (ha : a.wf) :
  Calls Tryz.prog 38 #[.agg a.cells.toArray, v, .int .i64 want] w0 (GivenPost xs a.kind want w0) := by
 have HA := Lib.hid (fun k hk => lts_at hr hw k hk)
 obtain ⟨ao, cp, rfl, hle, hcm, _, _⟩ := hr
 have HW := Lib.hid hw
 unfold maxLen at hcm
 obtain ⟨n, hn⟩ : ∃ n, xs.length = n := ⟨_, rfl⟩
 rw [hn] at hle
 rw [hn]
 have HN := Lib.hid hn
 obtain ⟨K, NN, I, NOW⟩ := a
 have ha1 : i64R I := ha.i
 have HI := Lib.hid ha1
 have O := OwF.start (fun _ => False) w0
 have ZC := Lib.hid zLt_cells
 clear hw hn ha ha1
 unfold ActD.cells
 dsimp only
 by_cases c0 : n = 0
 ·subst c0
  go_enter Tryz.func38, Tryz.ntmps38
  go_wp2_with (first | ((with_reducible refine @wpList_at _ _ _ _ _ _ _ (.box 78 (.tmp 0)) rfl ?_); refine @wpList_of_box _ _ _ _ _ _ _ _ _ _ 78 (.tmp 0) rfl [.int .i64 K, .int .i64 NN, .int .i64 I, .float .f64 NOW] rfl O rfl ?_; clear O; intro ba w O) | ((with_reducible refine @wpList_at _ _ _ _ _ _ _ (.alloc 31) rfl ?_); refine @wpList_of_alloc _ _ _ _ _ _ _ _ _ _ 31 rfl ZLt0 ZLt0_info O rfl ?_; clear O; intro bx w O) | ((with_reducible refine @wpList_at _ _ _ _ _ _ _ (.build 31 #[]) rfl ?_); refine wpList_build_eq rfl 31 _ rfl [] (by kernel_rfl) ZLt0 bLight0 ?_) | ((with_reducible refine @wpList_at _ _ _ _ _ _ _ (.store 31 (.tmp 6) (.tmp 13)) rfl ?_); refine @wpList_of_store _ _ _ _ _ _ _ _ _ _ 31 (.tmp 6) (.tmp 13) rfl O 0 bx rfl ZLt0 ZLt0 _ rfl rfl (by first | rfl | exact LtR.cells_length _ XW.out) (by first | exact ZLt0_one | exact LtR_one _) light_szz rfl ?_; clear O; intro w O; simp only [List.set_cons_zero] at O))
  refine bodyPost_ret (results_cell_tmp rfl _ _ ⟨bx, 0, none⟩ _ _ rfl rfl (run_loadVar_part _ _ _ 31 ZLt0 _ (O.row_of (g := bx) (T := 31) (by simp)) Tryz.underlying31 rfl light_szz)) rfl ?_
  exact ⟨O.tch.grown (fun _ h => h.elim), zLt, false, zLt_wf, by rw [ZC.out]; rfl, fun h => by cases h⟩
 have c0i : ¬ (n : Int) = 0 := by omega
 by_cases c2 : K = 2
 ·have HC2 := Lib.hid c2
  have c2b : (K == 2) = true := by simpa using c2
  clear c2
  have hi := HI.out
  unfold i64R at hi
  obtain ⟨j, hj⟩ : ∃ j : Nat, (if I < 0 then -(I + 1) else I) = (j : Int) := ⟨(if I < 0 then -(I + 1) else I).toNat, by split <;> omega⟩
  have hjr : (j : Int) ≤ 9223372036854775807 := by rw [← hj]; split <;> omega
  obtain ⟨k, hk⟩ : ∃ k, j % n = k := ⟨_, rfl⟩
  have hlt : k < n := by rw [← hk]; exact Nat.mod_lt _ (by omega)
  have hrem : (j : Int).tmod (n : Int) = (k : Int) := by rw [Int.tmod_eq_emod_of_nonneg (by omega), ← hk]; rfl
  have hrem2 : (j : Int) % (n : Int) = (k : Int) := by rw [← hk]; rfl
  have hrem3 : ((j % n : Nat) : Int) = (k : Int) := by rw [hk]
  have ew := IntWalk.i64_in (k : Int) (by omega)
  have ew2 := IntWalk.i64_in (j : Int) (by omega)
  have hkx : k < xs.length := by rw [HN.out]; exact hlt
  obtain ⟨g, o, c, hv, hgB, hrow⟩ := HA.out k hkx
  have e1 := (Value.slice.inj hv).1
  subst e1
  have FX := Lib.hid hrow
  obtain ⟨x, hx⟩ : ∃ x, xs[k] = x := ⟨_, rfl⟩
  rw [hx] at FX
  have XW := Lib.hid (show x.wf from hx ▸ HW.out _ (List.getElem_mem hkx))
  have HX := Lib.hid (show x ∈ xs from hx ▸ List.getElem_mem hkx)
  have hix : ¬ ((n : Int) ≤ (k : Int)) := by omega
  clear hrow hx hv hkx hk
  by_cases ci : I < 0
  ·rw [if_pos ci] at hj
   have ew3 := IntWalk.i64_in (I + 1) (by omega)
   have hneg : -(I + 1) = (j : Int) := hj
   clear hj hi
   go_enter Tryz.func38, Tryz.ntmps38
   go_wp2_with (first | ((with_reducible refine @wpList_at _ _ _ _ _ _ _ (.box 78 (.tmp 0)) rfl ?_); refine @wpList_of_box _ _ _ _ _ _ _ _ _ _ 78 (.tmp 0) rfl [.int .i64 K, .int .i64 NN, .int .i64 I, .float .f64 NOW] rfl O rfl ?_; clear O; intro ba w O) | ((with_reducible refine @wpList_at _ _ _ _ _ _ _ (.alloc 31) rfl ?_); refine @wpList_of_alloc _ _ _ _ _ _ _ _ _ _ 31 rfl ZLt0 ZLt0_info O rfl ?_; clear O; intro bx w O) | ((with_reducible refine @wpList_at _ _ _ _ _ _ _ (.load 3 (.tmp 14)) rfl ?_); refine @wpList_of_cell _ _ _ _ _ _ _ _ _ _ 3 (.tmp 14) rfl O 1 ba 0 rfl _ _ rfl _ rfl _ Tryz.underlying3 rfl rfl ?_) | ((with_reducible refine @wpList_at _ _ _ _ _ _ _ (.load 3 (.tmp 17)) rfl ?_); refine @wpList_of_cell _ _ _ _ _ _ _ _ _ _ 3 (.tmp 17) rfl O 1 ba 2 rfl _ _ rfl _ rfl _ Tryz.underlying3 rfl rfl ?_) | ((with_reducible refine @wpList_at _ _ _ _ _ _ _ (.load 31 (.tmp 29)) rfl ?_); refine wpList_load_part rfl 31 _ rfl g ((o + k * 200)) rfl x.cells _ (FX.out.grown (O.tch.grown (fun _ h => h.elim)) (by simp)) Tryz.underlying31 rfl (sizeLt _ XW.out) ?_) | ((with_reducible refine @wpList_at _ _ _ _ _ _ _ (.store 31 (.tmp 6) (.tmp 30)) rfl ?_); refine @wpList_of_store _ _ _ _ _ _ _ _ _ _ 31 (.tmp 6) (.tmp 30) rfl O 0 bx rfl x.cells ZLt0 _ rfl rfl (by first | rfl | exact LtR.cells_length _ XW.out) (by first | exact ZLt0_one | exact LtR_one _) (sizeLt _ XW.out) rfl ?_; clear O; intro w O; simp only [List.set_cons_zero] at O))
   refine bodyPost_ret (results_cell_tmp rfl _ _ ⟨bx, 0, none⟩ _ _ rfl rfl (run_loadVar_part _ _ _ 31 x.cells _ (O.row_of (g := bx) (T := 31) (by simp)) Tryz.underlying31 rfl (sizeLt _ XW.out))) rfl ?_
   exact ⟨O.tch.grown (fun _ h => h.elim), x, true, XW.out, rfl, fun _ => ⟨HX.out, fun h => absurd HC2.out h⟩⟩
  ·rw [if_neg ci] at hj
   have hI : I = (j : Int) := hj
   clear hj hi
   go_enter Tryz.func38, Tryz.ntmps38
   go_wp2_with (first | ((with_reducible refine @wpList_at _ _ _ _ _ _ _ (.box 78 (.tmp 0)) rfl ?_); refine @wpList_of_box _ _ _ _ _ _ _ _ _ _ 78 (.tmp 0) rfl [.int .i64 K, .int .i64 NN, .int .i64 I, .float .f64 NOW] rfl O rfl ?_; clear O; intro ba w O) | ((with_reducible refine @wpList_at _ _ _ _ _ _ _ (.alloc 31) rfl ?_); refine @wpList_of_alloc _ _ _ _ _ _ _ _ _ _ 31 rfl ZLt0 ZLt0_info O rfl ?_; clear O; intro bx w O) | ((with_reducible refine @wpList_at _ _ _ _ _ _ _ (.load 3 (.tmp 14)) rfl ?_); refine @wpList_of_cell _ _ _ _ _ _ _ _ _ _ 3 (.tmp 14) rfl O 1 ba 0 rfl _ _ rfl _ rfl _ Tryz.underlying3 rfl rfl ?_) | ((with_reducible refine @wpList_at _ _ _ _ _ _ _ (.load 3 (.tmp 17)) rfl ?_); refine @wpList_of_cell _ _ _ _ _ _ _ _ _ _ 3 (.tmp 17) rfl O 1 ba 2 rfl _ _ rfl _ rfl _ Tryz.underlying3 rfl rfl ?_) | ((with_reducible refine @wpList_at _ _ _ _ _ _ _ (.load 31 (.tmp 29)) rfl ?_); refine wpList_load_part rfl 31 _ rfl g ((o + k * 200)) rfl x.cells _ (FX.out.grown (O.tch.grown (fun _ h => h.elim)) (by simp)) Tryz.underlying31 rfl (sizeLt _ XW.out) ?_) | ((with_reducible refine @wpList_at _ _ _ _ _ _ _ (.store 31 (.tmp 6) (.tmp 30)) rfl ?_); refine @wpList_of_store _ _ _ _ _ _ _ _ _ _ 31 (.tmp 6) (.tmp 30) rfl O 0 bx rfl x.cells ZLt0 _ rfl rfl (by first | rfl | exact LtR.cells_length _ XW.out) (by first | exact ZLt0_one | exact LtR_one _) (sizeLt _ XW.out) rfl ?_; clear O; intro w O; simp only [List.set_cons_zero] at O))
   refine bodyPost_ret (results_cell_tmp rfl _ _ ⟨bx, 0, none⟩ _ _ rfl rfl (run_loadVar_part _ _ _ 31 x.cells _ (O.row_of (g := bx) (T := 31) (by simp)) Tryz.underlying31 rfl (sizeLt _ XW.out))) rfl ?_
   exact ⟨O.tch.grown (fun _ h => h.elim), x, true, XW.out, rfl, fun _ => ⟨HX.out, fun h => absurd HC2.out h⟩⟩
 have c2i : (K == 2) = false := by simpa using c2
 go_enter Tryz.func38, Tryz.ntmps38
 go_wp2_with (first | ((with_reducible refine @wpList_at _ _ _ _ _ _ _ (.box 78 (.tmp 0)) rfl ?_); refine @wpList_of_box _ _ _ _ _ _ _ _ _ _ 78 (.tmp 0) rfl [.int .i64 K, .int .i64 NN, .int .i64 I, .float .f64 NOW] rfl O rfl ?_; clear O; intro ba w O) | ((with_reducible refine @wpList_at _ _ _ _ _ _ _ (.alloc 31) rfl ?_); refine @wpList_of_alloc _ _ _ _ _ _ _ _ _ _ 31 rfl ZLt0 ZLt0_info O rfl ?_; clear O; intro bx w O) | ((with_reducible refine @wpList_at _ _ _ _ _ _ _ (.load 3 (.tmp 14)) rfl ?_); refine @wpList_of_cell _ _ _ _ _ _ _ _ _ _ 3 (.tmp 14) rfl O 1 ba 0 rfl _ _ rfl _ rfl _ Tryz.underlying3 rfl rfl ?_))
 go_loopw [9] (fun i wr => ∃ k : Nat, k ≤ n ∧ i = .int .i64 k ∧ OwF (fun _ => False) w0 wr [(bx, ZLt0, 31), (ba, [.int .i64 K, .int .i64 NN, .int .i64 I, .float .f64 NOW], 78)]) (fun i _ => n - (intOf i).toNat)
 case atStart => exact ⟨0, Nat.zero_le _, rfl, O⟩
 case round =>
  clear O
  obtain ⟨k, hk, rfl, O⟩ := hrel
  by_cases hlt : k < n
  ·have hkx : k < xs.length := by rw [HN.out]; exact hlt
   obtain ⟨g, o, c, hv, hgB, hrow⟩ := HA.out k hkx
   have e1 := (Value.slice.inj hv).1
   subst e1
   obtain ⟨x, hx⟩ : ∃ x, xs[k] = x := ⟨_, rfl⟩
   rw [hx] at hrow
   have FX := Lib.hid hrow
   have XW := Lib.hid (show x.wf from hx ▸ HW.out _ (List.getElem_mem hkx))
   have HX := Lib.hid (show x ∈ xs from hx ▸ List.getElem_mem hkx)
   have hix : ¬ ((n : Int) ≤ (k : Int)) := by omega
   have c1 := hrow.grown (O.tch.grown (fun _ h => h.elim)) (by simp) 1 (.int .i64 x.header.height) rfl
   obtain ⟨H, hH⟩ : ∃ h, x.header.height = h := ⟨_, rfl⟩
   rw [hH] at c1
   have HH := Lib.hid hH
   clear hrow hx hv hkx hH
   by_cases ch : H = want
   ·subst ch
    go_wp2_with (first | ((with_reducible refine @wpList_at _ _ _ _ _ _ _ (.load 31 (.tmp 47)) rfl ?_); refine wpList_load_part rfl 31 _ rfl g ((o + k * 200)) rfl x.cells _ (FX.out.grown (O.tch.grown (fun _ h => h.elim)) (by simp)) Tryz.underlying31 rfl (sizeLt _ XW.out) ?_) | ((with_reducible refine @wpList_at _ _ _ _ _ _ _ (.store 31 (.tmp 6) (.tmp 48)) rfl ?_); refine @wpList_of_store _ _ _ _ _ _ _ _ _ _ 31 (.tmp 6) (.tmp 48) rfl O 0 bx rfl x.cells ZLt0 _ rfl rfl (by first | rfl | exact LtR.cells_length _ XW.out) (by first | exact ZLt0_one | exact LtR_one _) (sizeLt _ XW.out) rfl ?_; clear O; intro w O; simp only [List.set_cons_zero] at O))
    refine bodyPost_ret (results_cell_tmp rfl _ _ ⟨bx, 0, none⟩ _ _ rfl rfl (run_loadVar_part _ _ _ 31 x.cells _ (O.row_of (g := bx) (T := 31) (by simp)) Tryz.underlying31 rfl (sizeLt _ XW.out))) rfl ?_
    exact ⟨O.tch.grown (fun _ h => h.elim), x, true, XW.out, rfl, fun _ => ⟨HX.out, fun _ => HH.out⟩⟩
   ·have chb : (H == want) = false := by simpa using ch
    go_wp2
    exact ⟨⟨k + 1, by omega, by go_num, O⟩, by simp [intOf]; omega⟩
  ·obtain rfl : k = n := by omega
   go_wp2_with (first | ((with_reducible refine @wpList_at _ _ _ _ _ _ _ (.build 31 #[]) rfl ?_); refine wpList_build_eq rfl 31 _ rfl [] (by kernel_rfl) ZLt0 bLight0 ?_) | ((with_reducible refine @wpList_at _ _ _ _ _ _ _ (.store 31 (.tmp 6) (.tmp 49)) rfl ?_); refine @wpList_of_store _ _ _ _ _ _ _ _ _ _ 31 (.tmp 6) (.tmp 49) rfl O 0 bx rfl ZLt0 ZLt0 _ rfl rfl (by first | rfl | exact LtR.cells_length _ XW.out) (by first | exact ZLt0_one | exact LtR_one _) light_szz rfl ?_; clear O; intro w O; simp only [List.set_cons_zero] at O))
   refine bodyPost_ret (results_cell_tmp rfl _ _ ⟨bx, 0, none⟩ _ _ rfl rfl (run_loadVar_part _ _ _ 31 ZLt0 _ (O.row_of (g := bx) (T := 31) (by simp)) Tryz.underlying31 rfl light_szz)) rfl ?_
   exact ⟨O.tch.grown (fun _ h => h.elim), zLt, false, zLt_wf, by rw [ZC.out]; rfl, fun h => by cases h⟩
theorem climb_total (now : Nat) : ∀ (n : Nat) (c : BcD), c.pend.length = n → (BcD.climb now n c).1.store.length + (BcD.climb now n c).1.pend.length ≤ c.store.length + c.pend.length
 | 0, c, _ => Nat.le_refl _
 | n + 1, c, hn => by
  unfold BcD.climb
  dsimp only
  split
  ·have := climb_total now n { c with store := c.store ++ [lastB c.pend], pend := c.pend.dropLast } (by simp [hn])
   dsimp only at this
   rw [List.length_append, List.length_dropLast] at this
   simp only [List.length_cons, List.length_nil] at this
   omega
  ·split
   ·exact Nat.le_refl _
   ·simp [BcD.drop]
theorem give_total (c : BcD) (l : LightD) (now : Nat) : (c.give l now).1.store.length + (c.give l now).1.pend.length ≤ c.store.length + c.pend.length + 1 := by
 unfold BcD.give
 split
 ·exact Nat.le_succ _
 split
 ·simp [BcD.drop]; omega
 ·have := climb_total now (c.pend.length + 1) { c with fet := c.fet + 1, pend := c.pend ++ [l] } (by simp)
  dsimp only at this
  rw [List.length_append] at this
  simpa [Nat.add_assoc] using this
theorem goal_total (c : BcD) (n : Int) : (c.goal n).1.store.length + (c.goal n).1.pend.length ≤ c.store.length + c.pend.length := by
 unfold BcD.goal
 split
 ·exact Nat.le_refl _
 split
 ·exact Nat.le_refl _
 ·simp
theorem gb_drewN (w : World) (n : Nat) : w.grownBy (w.drewN n) none := ⟨rfl, rfl, rfl, Nat.le_refl _, fun _ _ _ => rfl⟩
structure Kept16 (T : TypeId) (w0 w : World) (L : List (Nat × List Value × TypeId)) (R : List (Value × List LightD)) (p : Nat) (c : BcD) : Prop where
 own : ∀ e ∈ L, Blk w e.1 e.2.1 e.2.2
 new : ∀ e ∈ L, w0.heap.size ≤ e.1
 nodup : L.Pairwise fun d e => d.1 ≠ e.1
 g : w0.grownBy w none
 ex : ∃ (K I : Nat → Prop) (sv pv : Value), BcRep T I w p sv pv c ∧ I 1 ∧
  (∀ b, Foot p sv pv b → w0.heap.size ≤ b ∧ ¬ K b ∧ ∀ e ∈ L, e.1 ≠ b) ∧
  (∀ b, I b → ∀ e ∈ L, e.1 ≠ b) ∧
  (∀ b, K b → b < w.heap.size ∧ ∀ e ∈ L, e.1 ≠ b) ∧
  ∀ r ∈ R, LRow K w r.1 r.2 ∧ ∀ b, r.1.ownBlock = some b → K b
section
variable {T : TypeId} {w0 w w' : World} {L L' : List (Nat × List Value × TypeId)} {R : List (Value × List LightD)} {p : Nat} {c c' : BcD}
theorem Kept16.O (h : Kept16 T w0 w L R p c) : OwF (fun b => ∃ e ∈ L, e.1 = b) w w L := ⟨Tch.refl _ _, h.own, fun e he => .inr ⟨e, he, rfl⟩, h.nodup⟩
theorem Kept16.move (h : Kept16 T w0 w L R p c) (O : OwF (fun b => ∃ e ∈ L, e.1 = b) w w' L') : Kept16 T w0 w' L' R p c := by
 obtain ⟨K, I, sv, pv, r, hi, hf, hI, hK, hR⟩ := h.ex
 have hL : ∀ b, b < w.heap.size → (∀ e ∈ L, e.1 ≠ b) → ∀ e ∈ L', e.1 ≠ b := fun b hb hn e he => by
  rcases O.ok e he with h1 | ⟨d, hd, e1⟩
  ·omega
  ·rw [← e1]; exact hn d hd
 refine ⟨O.blk, ?_, O.nodup, ?_, K, I, sv, pv, ?_, hi, ?_, ?_, ?_, ?_⟩
 ·intro e he
  rcases O.ok e he with h1 | ⟨d, hd, e1⟩
  ·exact Nat.le_trans h.g.size h1
  ·rw [← e1]; exact h.new d hd
 ·exact ((Tch.of_grown (F := fun _ => False) h.g).trans O.tch (fun b hb hl => by obtain ⟨e, he, rfl⟩ := hb; have := h.new e he; omega)).grown (fun _ h => h.elim)
 ·exact r.tch O.tch (fun b hb _ => by
   obtain ⟨e, he, rfl⟩ := hb
   exact ⟨fun hf2 => (hf _ hf2).2.2 e he rfl, fun hi2 => hI _ hi2 e he rfl⟩)
 ·exact fun b hb => ⟨(hf b hb).1, (hf b hb).2.1, hL b (r.lt hb) (hf b hb).2.2⟩
 ·exact fun b hb => hL b (r.out b hb).1 (hI b hb)
 ·exact fun b hb => ⟨Nat.lt_of_lt_of_le (hK b hb).1 O.tch.size, hL b (hK b hb).1 (hK b hb).2⟩
 ·exact fun x hx => ⟨(hR x hx).1.tch O.tch (fun b hb hq => by obtain ⟨e, he, e1⟩ := hq; exact (hK b ((hR x hx).2 b hb)).2 e he e1) (fun b hb hq => by obtain ⟨e, he, e1⟩ := hq; exact (hK b hb).2 e he e1), (hR x hx).2⟩
theorem Kept16.grown (h : Kept16 T w0 w L R p c) (g : w.grownBy w' none) : Kept16 T w0 w' L R p c := h.move (h.O.call g)
theorem Kept16.call {P : Program} {f : Nat} {args : Array Value} {E : Ending} (h : Kept16 T w0 w L R p c)
  (C : ∀ (I : Nat → Prop) (sv pv : Value), BcRep T I w p sv pv c → I 1 → (∀ b, Foot p sv pv b → w0.heap.size ≤ b) → Calls P f args w fun e w' => e = E ∧ BcPostI T I w p sv pv c' w') :
  Calls P f args w fun e w' => e = E ∧ Kept16 T w0 w' L R p c' := by
 obtain ⟨K, I, sv, pv, r, hi, hf, hI, hK, hR⟩ := h.ex
 refine (C I sv pv r hi (fun b hb => (hf b hb).1)).mono ?_
 rintro e w' ⟨he, I', i1, i2, sv', pv', r', t, f'⟩
 refine ⟨he, fun e he => t.blk (h.own e he) (fun hb => (hf _ hb).2.2 e he rfl), h.new, h.nodup, ?_, K, I', sv', pv', r', i1 _ hi, ?_, ?_, ?_, ?_⟩
 ·exact ((Tch.of_grown (F := fun _ => False) h.g).trans t (fun b hb hl => by have := (hf b hb).1; omega)).grown (fun _ h => h.elim)
 ·intro b hb
  rcases f' b hb with h1 | h1
  ·exact hf b h1
  ·exact ⟨Nat.le_trans h.g.size h1, fun hk => by have := (hK b hk).1; omega, fun e he e1 => by have := (h.own e he).lt; omega⟩
 ·intro b hb e he e1
  rcases i2 b hb with h1 | h1
  ·exact hI b h1 e he e1
  ·have := (h.own e he).lt; omega
 ·exact fun b hb => ⟨Nat.lt_of_lt_of_le (hK b hb).1 t.size, (hK b hb).2⟩
 ·exact fun x hx => ⟨(hR x hx).1.tch t (fun b hb hq => (hf b hq).2.1 ((hR x hx).2 b hb)) (fun b hb hq => (hf b hq).2.1 hb), (hR x hx).2⟩
theorem Kept16.copies {v : Value} {ls : List LightD} (h : Kept16 T w0 w L R p c) (k : Copies w ls v w') : Kept16 T w0 w' L ((v, ls) :: R) p c := by
 obtain ⟨g, J, hJ, hr, ho⟩ := k
 obtain ⟨K, I, sv, pv, r, hi, hf, hI, hK, hR⟩ := h.ex
 have hr2 : LRow (fun b => K b ∨ (w.heap.size ≤ b ∧ b < w'.heap.size)) w' v ls := hr.mono (fun b hb => .inr ⟨(hJ b hb).1, (hJ b hb).2.1⟩)
 refine ⟨fun e he => (h.own e he).grown g (by simp), h.new, h.nodup, h.g.trans g, fun b => K b ∨ (w.heap.size ≤ b ∧ b < w'.heap.size), I, sv, pv, r.grown g, hi, ?_, hI, ?_, ?_⟩
 ·exact fun b hb => ⟨(hf b hb).1, fun hk => hk.elim (hf b hb).2.1 (fun h1 => by have := r.lt hb; omega), (hf b hb).2.2⟩
 ·intro b hb
  rcases hb with hb | hb
  ·exact ⟨Nat.lt_of_lt_of_le (hK b hb).1 g.size, (hK b hb).2⟩
  ·exact ⟨hb.2, fun e he e1 => by have := (h.own e he).lt; omega⟩
 ·intro x hx
  rcases List.mem_cons.1 hx with rfl | hx
  ·exact ⟨hr2, fun b hb => .inr ⟨ho b hb, hr.lt hb⟩⟩
  ·exact ⟨((hR x hx).1.grown g).mono (fun b hb => .inl hb), fun b hb => .inl ((hR x hx).2 b hb)⟩
theorem Kept16.row (h : Kept16 T w0 w L R p c) (n : Nat) {v : Value} {ls : List LightD} (hn : R[n]? = some (v, ls)) : ∃ K : Nat → Prop, LRow K w v ls := by
 obtain ⟨K, I, sv, pv, r, hi, hf, hI, hK, hR⟩ := h.ex
 exact ⟨K, (hR _ (List.mem_of_getElem? hn)).1⟩
theorem Kept16.rep (h : Kept16 T w0 w L R p c) : ∃ I sv pv, BcRep T I w p sv pv c := by
 obtain ⟨K, I, sv, pv, r, _⟩ := h.ex
 exact ⟨I, sv, pv, r⟩
theorem Kept16.ok (h : Kept16 T w0 w L R p c) : c.ok := by obtain ⟨I, sv, pv, r⟩ := h.rep; exact r.ok
end
section
variable {w0 w : World} {L : List (Nat × List Value × TypeId)} {R : List (Value × List LightD)} {p : Nat} {c : BcD}
theorem kGoal (h : Kept16 125 w0 w L R p c) (n : Int) : Calls Tryz.prog 37 #[.pointer (some ⟨p, 0, none⟩), .int .i64 n] w fun e w' => e = .returned (.int .i64 (c.goal n).2) ∧ Kept16 125 w0 w' L R p (c.goal n).1 :=
 h.call fun _ _ _ r _ _ => (Goal_ok r n).mono fun _ _ k => ⟨k.1, k.2.toI⟩
theorem kPrune (h : Kept16 125 w0 w L R p c) (n : Int) (hn : i64R n) : Calls Tryz.prog 46 #[.pointer (some ⟨p, 0, none⟩), .int .i64 n] w fun e w' => e = .returned (.int .i64 (c.prune n).2) ∧ Kept16 125 w0 w' L R p (c.prune n).1 :=
 h.call fun _ _ _ r _ _ => (Prune_ok r n hn).mono fun _ _ k => ⟨k.1, k.2.toI⟩
theorem kGive (h : Kept16 125 w0 w L R p c) (x : LtR) (l : LightD) (hof : x.of w0.heap.size w0 l) (hfit : l.fit) (now : Nat) (hnow : now < 18446744073709551616) (hR : RowAt w0 1 0 (wCells rootsL)) (hroom : c.store.length + c.pend.length + 1 ≤ 100000) :
  Calls Tryz.prog 40 #[.pointer (some ⟨p, 0, none⟩), .agg x.cells.toArray, .float .f64 now] w fun e w' => e = .returned (.int .i64 (c.give l now).2) ∧ Kept16 125 w0 w' L R p (c.give l now).1 :=
 h.call fun _ _ _ r hi hf => Give_ok r x l (hof.up h.g (Nat.le_refl _)) hfit (· < w0.heap.size) hof.inn (fun b hb hq => by have := hf b hq; omega) now hnow (hR.grown h.g (by simp)) hi hroom
theorem kWant (h : Kept16 125 w0 w L R p c) : Calls Tryz.prog 39 #[.pointer (some ⟨p, 0, none⟩)] w fun e w' => e = .returned (.int .i64 c.want) ∧ w.grownBy w' none := by
 obtain ⟨I, sv, pv, r⟩ := h.rep
 exact Want_ok r
theorem kStore (h : Kept16 125 w0 w L R p c) : Calls Tryz.prog 36 #[.pointer (some ⟨p, 0, none⟩)] w fun e w' => ∃ a n k, e = .returned (.slice a n k) ∧ n = c.store.length ∧ Kept16 125 w0 w' L ((.slice a n k, c.store) :: R) p c := by
 obtain ⟨I, sv, pv, r⟩ := h.rep
 refine (Store_ok r).mono ?_
 rintro e w' ⟨a, n, k, rfl, hc⟩
 obtain ⟨K, hr⟩ := (h.copies hc).row 0 rfl
 obtain ⟨a2, c2, e, _⟩ := hr.shape
 exact ⟨a, n, k, rfl, (Value.slice.inj e).2.1, h.copies hc⟩
theorem kTrace (h : Kept16 125 w0 w L R p c) : Calls Tryz.prog 48 #[.pointer (some ⟨p, 0, none⟩)] w fun e w' => ∃ a n k, e = .returned (.slice a n k) ∧ n = c.trace.length ∧ Kept16 125 w0 w' L ((.slice a n k, c.trace) :: R) p c := by
 obtain ⟨I, sv, pv, r⟩ := h.rep
 refine (Trace_ok r).mono ?_
 rintro e w' ⟨a, n, k, rfl, hc⟩
 obtain ⟨K, hr⟩ := (h.copies hc).row 0 rfl
 obtain ⟨a2, c2, e, _⟩ := hr.shape
 exact ⟨a, n, k, rfl, (Value.slice.inj e).2.1, h.copies hc⟩
theorem kNew (x : LtR) (l : LightD) (now : Nat) (o : OptD) (hof : x.of w0.heap.size w0 l) (hfit : l.fit) (hnow : now < 18446744073709551616) (ho : o.wf) (hR : RowAt w0 1 0 (wCells rootsL)) (O : OwF (fun _ => False) w0 w L) :
  Calls Tryz.prog 35 #[.agg x.cells.toArray, .float .f64 now, .agg o.cells.toArray] w fun e w' => ∃ P, e = .returned (.tuple #[P, .int .i64 (bnewE l now o)]) ∧ w.grownBy w' none ∧
   ((bnewE l now o ≠ 0 ∧ P = .pointer none) ∨ (bnewE l now o = 0 ∧ ∃ p, P = .pointer (some ⟨p, 0, none⟩) ∧ Kept16 125 w0 w' L [] p (BcD.new l o))) := by
 have g0 : w0.grownBy w none := O.tch.grown (fun _ h => h.elim)
 refine (New_ok2 x l now o w (hof.up g0 (Nat.le_refl _)) hfit hnow ho (hR.grown g0 (by simp))).mono ?_
 rintro e w' ⟨g, ⟨h1, h2⟩ | ⟨h1, q, sv, I, rfl, r, f, i, ir⟩⟩
 ·exact ⟨_, h2, g, .inl ⟨h1, rfl⟩⟩
 ·have hrl : 1 < w0.heap.size := World.block_lt_of_cell? _ _ (hR 0 _ rfl)
  have hz := g0.size
  refine ⟨_, by rw [h1], g, .inr ⟨h1, q, rfl, ⟨fun e he => (O.blk e he).grown g (by simp), fun e he => (O.ok e he).resolve_right id, O.nodup, g0.trans g, fun _ => False, I, sv, _, r, ir, ?_, ?_, fun _ h => h.elim, by simp⟩⟩⟩
  ·exact fun b hb => ⟨Nat.le_trans hz (f b hb), id, fun e he e1 => by have := (O.blk e he).lt; have := f b hb; omega⟩
  ·intro b hb e he e1
   have h2 := (O.blk e he).lt; have h3 := (O.ok e he).resolve_right id
   rcases i b hb with h | h <;> omega
structure Came (w0 : World) (v : Value) (xs : List LtR) : Prop where
 row : RdS w0.heap.size w0 v xs.length 200 (ltsCells xs)
 each : ∀ x ∈ xs, ∃ l, x.of w0.heap.size w0 l ∧ l.wf ∧ l.header.chain.size ≤ 140737488351232
theorem Came.wf {v : Value} {xs : List LtR} (h : Came w0 v xs) : ∀ x ∈ xs, x.wf := fun x hx => by
 obtain ⟨l, h1, h2, _⟩ := h.each x hx
 exact h1.wf h2
theorem Came.fit {v : Value} {xs : List LtR} (h : Came w0 v xs) (hf : xs.all fewLt = true) : ∀ x ∈ xs, ∃ l, x.of w0.heap.size w0 l ∧ l.fit := fun x hx => by
 obtain ⟨l, h1, h2, h3⟩ := h.each x hx
 obtain ⟨k1, k2, k3⟩ := (few_lens h1).1 (List.all_eq_true.1 hf x hx)
 exact ⟨l, h1, h2, k3, k1, k2, h3⟩
theorem OwF.sub {F : Nat → Prop} {w0 w : World} {L L' : List (Nat × List Value × TypeId)} (O : OwF F w0 w L) (h : L'.Sublist L) : OwF F w0 w L' :=
 ⟨O.tch, fun e he => O.blk e (h.subset he), fun e he => O.ok e (h.subset he), O.nodup.sublist h⟩
theorem Kept16.joins {T : TypeId} {w' : World} {L' : List (Nat × List Value × TypeId)} (h : Kept16 T w0 w L R p c) (O : OwF (fun _ => False) w w' L') : Kept16 T w0 w' (L ++ L') R p c := by
 have g : w.grownBy w' none := O.tch.grown (fun _ h => h.elim)
 refine h.move ⟨O.tch.mono (fun _ h _ => h.elim), ?_, ?_, ?_⟩
 ·intro e he
  rcases List.mem_append.1 he with he | he
  ·exact (h.own e he).grown g (by simp)
  ·exact O.blk e he
 ·intro e he
  rcases List.mem_append.1 he with he | he
  ·exact .inr ⟨e, he, rfl⟩
  ·exact .inl ((O.ok e he).resolve_right id)
 ·refine List.pairwise_append.2 ⟨h.nodup, O.nodup, fun d hd e he e1 => ?_⟩
  have := (h.own d hd).lt; have := (O.ok e he).resolve_right id
  omega
theorem Kept16.bare {T : TypeId} (h : Kept16 T w0 w L R p c) : Kept16 T w0 w [] R p c := h.move h.O.forget
end
structure Pair16 (w0 w : World) (L : List (Nat × List Value × TypeId)) (R : List (Value × List LightD)) (p p2 : Nat) (c c2 : BcD) : Prop where
 own : ∀ e ∈ L, Blk w e.1 e.2.1 e.2.2
 new : ∀ e ∈ L, w0.heap.size ≤ e.1
 nodup : L.Pairwise fun d e => d.1 ≠ e.1
 g : w0.grownBy w none
 ex : ∃ (K I I2 : Nat → Prop) (sv pv sv2 pv2 : Value), BcRep 125 I w p sv pv c ∧ BcRep 93 I2 w p2 sv2 pv2 c2 ∧ I 1 ∧
  (∀ b, Foot p sv pv b → w0.heap.size ≤ b ∧ ¬ K b ∧ ¬ Foot p2 sv2 pv2 b ∧ ∀ e ∈ L, e.1 ≠ b) ∧
  (∀ b, Foot p2 sv2 pv2 b → w0.heap.size ≤ b ∧ ¬ K b ∧ ¬ I b ∧ ∀ e ∈ L, e.1 ≠ b) ∧
  (∀ b, I b → ∀ e ∈ L, e.1 ≠ b) ∧ (∀ b, I2 b → b < w0.heap.size) ∧
  (∀ b, K b → b < w.heap.size ∧ ∀ e ∈ L, e.1 ≠ b) ∧
  ∀ r ∈ R, LRow K w r.1 r.2 ∧ ∀ b, r.1.ownBlock = some b → K b
section
variable {w0 w w' : World} {L L' : List (Nat × List Value × TypeId)} {R : List (Value × List LightD)} {p p2 : Nat} {c c' c2 c2' : BcD}
theorem Pair16.O (h : Pair16 w0 w L R p p2 c c2) : OwF (fun b => ∃ e ∈ L, e.1 = b) w w L := ⟨Tch.refl _ _, h.own, fun e he => .inr ⟨e, he, rfl⟩, h.nodup⟩
theorem Pair16.move (h : Pair16 w0 w L R p p2 c c2) (O : OwF (fun b => ∃ e ∈ L, e.1 = b) w w' L') : Pair16 w0 w' L' R p p2 c c2 := by
 obtain ⟨K, I, I2, sv, pv, sv2, pv2, r, r2, hi, hf, hf2, hI, hI2, hK, hR⟩ := h.ex
 have hL : ∀ b, b < w.heap.size → (∀ e ∈ L, e.1 ≠ b) → ∀ e ∈ L', e.1 ≠ b := fun b hb hn e he => by
  rcases O.ok e he with h1 | ⟨d, hd, e1⟩
  ·omega
  ·rw [← e1]; exact hn d hd
 refine ⟨O.blk, ?_, O.nodup, ?_, K, I, I2, sv, pv, sv2, pv2, ?_, ?_, hi, ?_, ?_, ?_, hI2, ?_, ?_⟩
 ·intro e he
  rcases O.ok e he with h1 | ⟨d, hd, e1⟩
  ·exact Nat.le_trans h.g.size h1
  ·rw [← e1]; exact h.new d hd
 ·exact ((Tch.of_grown (F := fun _ => False) h.g).trans O.tch (fun b hb hl => by obtain ⟨e, he, rfl⟩ := hb; have := h.new e he; omega)).grown (fun _ h => h.elim)
 ·exact r.tch O.tch (fun b hb _ => by
   obtain ⟨e, he, rfl⟩ := hb
   exact ⟨fun q => (hf _ q).2.2.2 e he rfl, fun q => hI _ q e he rfl⟩)
 ·exact r2.tch O.tch (fun b hb _ => by
   obtain ⟨e, he, rfl⟩ := hb
   exact ⟨fun q => (hf2 _ q).2.2.2 e he rfl, fun q => by have := hI2 _ q; have := h.new e he; omega⟩)
 ·exact fun b hb => ⟨(hf b hb).1, (hf b hb).2.1, (hf b hb).2.2.1, hL b (r.lt hb) (hf b hb).2.2.2⟩
 ·exact fun b hb => ⟨(hf2 b hb).1, (hf2 b hb).2.1, (hf2 b hb).2.2.1, hL b (r2.lt hb) (hf2 b hb).2.2.2⟩
 ·exact fun b hb => hL b (r.out b hb).1 (hI b hb)
 ·exact fun b hb => ⟨Nat.lt_of_lt_of_le (hK b hb).1 O.tch.size, hL b (hK b hb).1 (hK b hb).2⟩
 ·exact fun x hx => ⟨(hR x hx).1.tch O.tch (fun b hb hq => by obtain ⟨e, he, e1⟩ := hq; exact (hK b ((hR x hx).2 b hb)).2 e he e1) (fun b hb hq => by obtain ⟨e, he, e1⟩ := hq; exact (hK b hb).2 e he e1), (hR x hx).2⟩
theorem Pair16.grown (h : Pair16 w0 w L R p p2 c c2) (g : w.grownBy w' none) : Pair16 w0 w' L R p p2 c c2 := h.move (h.O.call g)
theorem Pair16.only (h : Pair16 w0 w L R p p2 c c2) (hl : L'.Sublist L) : Pair16 w0 w L' R p p2 c c2 := h.move (h.O.sub hl)
theorem Pair16.joins (h : Pair16 w0 w L R p p2 c c2) (O : OwF (fun _ => False) w w' L') : Pair16 w0 w' (L ++ L') R p p2 c c2 := by
 have g : w.grownBy w' none := O.tch.grown (fun _ h => h.elim)
 refine h.move ⟨O.tch.mono (fun _ h _ => h.elim), ?_, ?_, ?_⟩
 ·intro e he
  rcases List.mem_append.1 he with he | he
  ·exact (h.own e he).grown g (by simp)
  ·exact O.blk e he
 ·intro e he
  rcases List.mem_append.1 he with he | he
  ·exact .inr ⟨e, he, rfl⟩
  ·exact .inl ((O.ok e he).resolve_right id)
 ·refine List.pairwise_append.2 ⟨h.nodup, O.nodup, fun d hd e he e1 => ?_⟩
  have := (h.own d hd).lt; have := (O.ok e he).resolve_right id
  omega
theorem Pair16.callA {P : Program} {f : Nat} {args : Array Value} {E : Ending} (h : Pair16 w0 w L R p p2 c c2)
  (C : ∀ (I : Nat → Prop) (sv pv : Value), BcRep 125 I w p sv pv c → I 1 → (∀ b, Foot p sv pv b → w0.heap.size ≤ b) → Calls P f args w fun e w' => e = E ∧ BcPostI 125 I w p sv pv c' w') :
  Calls P f args w fun e w' => e = E ∧ Pair16 w0 w' L R p p2 c' c2 := by
 obtain ⟨K, I, I2, sv, pv, sv2, pv2, r, r2, hi, hf, hf2, hI, hI2, hK, hR⟩ := h.ex
 refine (C I sv pv r hi (fun b hb => (hf b hb).1)).mono ?_
 rintro e w' ⟨he, I', i1, i2, sv', pv', r', t, f'⟩
 refine ⟨he, fun e he => t.blk (h.own e he) (fun hb => (hf _ hb).2.2.2 e he rfl), h.new, h.nodup, ?_, K, I', I2, sv', pv', sv2, pv2, r', ?_, i1 _ hi, ?_, ?_, ?_, hI2, ?_, ?_⟩
 ·exact ((Tch.of_grown (F := fun _ => False) h.g).trans t (fun b hb hl => by have := (hf b hb).1; omega)).grown (fun _ h => h.elim)
 ·exact r2.tch t (fun b hb _ => ⟨(hf b hb).2.2.1, fun q => by have := hI2 b q; have := (hf b hb).1; omega⟩)
 ·intro b hb
  rcases f' b hb with h1 | h1
  ·exact hf b h1
  ·exact ⟨Nat.le_trans h.g.size h1, fun hk => by have := (hK b hk).1; omega, fun q => by have := r2.lt q; omega, fun e he e1 => by have := (h.own e he).lt; omega⟩
 ·intro b hb
  obtain ⟨q1, q2, q3, q4⟩ := hf2 b hb
  exact ⟨q1, q2, fun q => (i2 b q).elim q3 (fun q => by have := r2.lt hb; omega), q4⟩
 ·intro b hb e he e1
  rcases i2 b hb with h1 | h1
  ·exact hI b h1 e he e1
  ·have := (h.own e he).lt; omega
 ·exact fun b hb => ⟨Nat.lt_of_lt_of_le (hK b hb).1 t.size, (hK b hb).2⟩
 ·exact fun x hx => ⟨(hR x hx).1.tch t (fun b hb hq => (hf b hq).2.1 ((hR x hx).2 b hb)) (fun b hb hq => (hf b hq).2.1 hb), (hR x hx).2⟩
theorem Pair16.callB {P : Program} {f : Nat} {args : Array Value} {E : Ending} (h : Pair16 w0 w L R p p2 c c2)
  (C : ∀ (I2 : Nat → Prop) (sv2 pv2 : Value), BcRep 93 I2 w p2 sv2 pv2 c2 → (∀ b, Foot p2 sv2 pv2 b → w0.heap.size ≤ b) → Calls P f args w fun e w' => e = E ∧ ∃ I2' : Nat → Prop, (∀ b, I2 b → I2' b) ∧ (∀ b, I2' b → I2 b ∨ b < w0.heap.size) ∧ BcPost 93 I2' w p2 sv2 pv2 c2' w') :
  Calls P f args w fun e w' => e = E ∧ Pair16 w0 w' L R p p2 c c2' := by
 obtain ⟨K, I, I2, sv, pv, sv2, pv2, r, r2, hi, hf, hf2, hI, hI2, hK, hR⟩ := h.ex
 refine (C I2 sv2 pv2 r2 (fun b hb => (hf2 b hb).1)).mono ?_
 rintro e w' ⟨he, I2', i1, i2, sv', pv', r', t, f'⟩
 refine ⟨he, fun e he => t.blk (h.own e he) (fun hb => (hf2 _ hb).2.2.2 e he rfl), h.new, h.nodup, ?_, K, I, I2', sv, pv, sv', pv', ?_, r', hi, ?_, ?_, hI, ?_, ?_, ?_⟩
 ·exact ((Tch.of_grown (F := fun _ => False) h.g).trans t (fun b hb hl => by have := (hf2 b hb).1; omega)).grown (fun _ h => h.elim)
 ·exact r.tch t (fun b hb _ => ⟨fun q => (hf b q).2.2.1 hb, (hf2 b hb).2.2.1⟩)
 ·intro b hb
  obtain ⟨q1, q2, q3, q4⟩ := hf b hb
  exact ⟨q1, q2, fun q => (f' b q).elim q3 (fun q => by have := r.lt hb; omega), q4⟩
 ·intro b hb
  rcases f' b hb with h1 | h1
  ·exact hf2 b h1
  ·exact ⟨Nat.le_trans h.g.size h1, fun hk => by have := (hK b hk).1; omega, fun q => by have := (r.out b q).1; omega, fun e he e1 => by have := (h.own e he).lt; omega⟩
 ·exact fun b hb => (i2 b hb).elim (hI2 b) id
 ·exact fun b hb => ⟨Nat.lt_of_lt_of_le (hK b hb).1 t.size, (hK b hb).2⟩
 ·exact fun x hx => ⟨(hR x hx).1.tch t (fun b hb hq => (hf2 b hq).2.1 ((hR x hx).2 b hb)) (fun b hb hq => (hf2 b hq).2.1 hb), (hR x hx).2⟩
theorem Pair16.copies {v : Value} {ls : List LightD} (h : Pair16 w0 w L R p p2 c c2) (k : Copies w ls v w') : Pair16 w0 w' L ((v, ls) :: R) p p2 c c2 := by
 obtain ⟨g, J, hJ, hr, ho⟩ := k
 obtain ⟨K, I, I2, sv, pv, sv2, pv2, r, r2, hi, hf, hf2, hI, hI2, hK, hR⟩ := h.ex
 have hr2 : LRow (fun b => K b ∨ (w.heap.size ≤ b ∧ b < w'.heap.size)) w' v ls := hr.mono (fun b hb => .inr ⟨(hJ b hb).1, (hJ b hb).2.1⟩)
 refine ⟨fun e he => (h.own e he).grown g (by simp), h.new, h.nodup, h.g.trans g, fun b => K b ∨ (w.heap.size ≤ b ∧ b < w'.heap.size), I, I2, sv, pv, sv2, pv2, r.grown g, r2.grown g, hi, ?_, ?_, hI, hI2, ?_, ?_⟩
 ·exact fun b hb => ⟨(hf b hb).1, fun hk => hk.elim (hf b hb).2.1 (fun h1 => by have := r.lt hb; omega), (hf b hb).2.2⟩
 ·exact fun b hb => ⟨(hf2 b hb).1, fun hk => hk.elim (hf2 b hb).2.1 (fun h1 => by have := r2.lt hb; omega), (hf2 b hb).2.2⟩
 ·intro b hb
  rcases hb with hb | hb
  ·exact ⟨Nat.lt_of_lt_of_le (hK b hb).1 g.size, (hK b hb).2⟩
  ·exact ⟨hb.2, fun e he e1 => by have := (h.own e he).lt; omega⟩
 ·intro x hx
  rcases List.mem_cons.1 hx with rfl | hx
  ·exact ⟨hr2, fun b hb => .inr ⟨ho b hb, hr.lt hb⟩⟩
  ·exact ⟨((hR x hx).1.grown g).mono (fun b hb => .inl hb), fun b hb => .inl ((hR x hx).2 b hb)⟩
theorem Pair16.rows0 (h : Pair16 w0 w L R p p2 c c2) : Pair16 w0 w L [] p p2 c c2 := by
 obtain ⟨K, I, I2, sv, pv, sv2, pv2, r, r2, hi, hf, hf2, hI, hI2, hK, hR⟩ := h.ex
 exact ⟨h.own, h.new, h.nodup, h.g, K, I, I2, sv, pv, sv2, pv2, r, r2, hi, hf, hf2, hI, hI2, hK, by simp⟩
theorem Pair16.row (h : Pair16 w0 w L R p p2 c c2) (n : Nat) {v : Value} {ls : List LightD} (hn : R[n]? = some (v, ls)) : ∃ K : Nat → Prop, LRow K w v ls := by
 obtain ⟨K, I, I2, sv, pv, sv2, pv2, r, r2, hi, hf, hf2, hI, hI2, hK, hR⟩ := h.ex
 exact ⟨K, (hR _ (List.mem_of_getElem? hn)).1⟩
theorem Pair16.repA (h : Pair16 w0 w L R p p2 c c2) : ∃ I sv pv, BcRep 125 I w p sv pv c := by
 obtain ⟨K, I, I2, sv, pv, sv2, pv2, r, r2, _⟩ := h.ex
 exact ⟨I, sv, pv, r⟩
theorem Pair16.repB (h : Pair16 w0 w L R p p2 c c2) : ∃ I2 sv2 pv2, BcRep 93 I2 w p2 sv2 pv2 c2 := by
 obtain ⟨K, I, I2, sv, pv, sv2, pv2, r, r2, _⟩ := h.ex
 exact ⟨I2, sv2, pv2, r2⟩
theorem pGoal (h : Pair16 w0 w L R p p2 c c2) (n : Int) : Calls Tryz.prog 37 #[.pointer (some ⟨p, 0, none⟩), .int .i64 n] w fun e w' => e = .returned (.int .i64 (c.goal n).2) ∧ Pair16 w0 w' L R p p2 (c.goal n).1 c2 :=
 h.callA fun _ _ _ r _ _ => (Goal_ok r n).mono fun _ _ k => ⟨k.1, k.2.toI⟩
theorem pPrune (h : Pair16 w0 w L R p p2 c c2) (n : Int) (hn : i64R n) : Calls Tryz.prog 46 #[.pointer (some ⟨p, 0, none⟩), .int .i64 n] w fun e w' => e = .returned (.int .i64 (c.prune n).2) ∧ Pair16 w0 w' L R p p2 (c.prune n).1 c2 :=
 h.callA fun _ _ _ r _ _ => (Prune_ok r n hn).mono fun _ _ k => ⟨k.1, k.2.toI⟩
theorem pGive (h : Pair16 w0 w L R p p2 c c2) (x : LtR) (l : LightD) (hof : x.of w0.heap.size w0 l) (hfit : l.fit) (now : Nat) (hnow : now < 18446744073709551616) (hR : RowAt w0 1 0 (wCells rootsL)) (hroom : c.store.length + c.pend.length + 1 ≤ 100000) :
  Calls Tryz.prog 40 #[.pointer (some ⟨p, 0, none⟩), .agg x.cells.toArray, .float .f64 now] w fun e w' => e = .returned (.int .i64 (c.give l now).2) ∧ Pair16 w0 w' L R p p2 (c.give l now).1 c2 :=
 h.callA fun _ _ _ r hi hf => Give_ok r x l (hof.up h.g (Nat.le_refl _)) hfit (· < w0.heap.size) hof.inn (fun b hb hq => by have := hf b hq; omega) now hnow (hR.grown h.g (by simp)) hi hroom
theorem rGoal (h : Pair16 w0 w L R p p2 c c2) (n : Int) : Calls Tryz.prog 44 #[.pointer (some ⟨p2, 0, none⟩), .int .i64 n] w fun e w' => e = .returned (.int .i64 (c2.goal n).2) ∧ Pair16 w0 w' L R p p2 c (c2.goal n).1 :=
 h.callB fun I2 _ _ r _ => (RGoal_ok r n).mono fun _ _ k => ⟨k.1, I2, fun _ h => h, fun _ h => .inl h, k.2⟩
theorem rPrune (h : Pair16 w0 w L R p p2 c c2) (n : Int) (hn : i64R n) : Calls Tryz.prog 47 #[.pointer (some ⟨p2, 0, none⟩), .int .i64 n] w fun e w' => e = .returned (.int .i64 (c2.prune n).2) ∧ Pair16 w0 w' L R p p2 c (c2.prune n).1 :=
 h.callB fun I2 _ _ r _ => (RPrune_ok r n hn).mono fun _ _ k => ⟨k.1, I2, fun _ h => h, fun _ h => .inl h, k.2⟩
theorem rGive (h : Pair16 w0 w L R p p2 c c2) (x : LtR) (l : LightD) (hof : x.of w0.heap.size w0 l) (hfit : l.fit) (now : Nat) (hnow : now < 18446744073709551616) (hroom : c2.store.length + c2.pend.length + 1 ≤ 100000) :
  Calls Tryz.prog 45 #[.pointer (some ⟨p2, 0, none⟩), .agg x.cells.toArray, .float .f64 now] w fun e w' => e = .returned (.int .i64 (c2.give l now).2) ∧ Pair16 w0 w' L R p p2 c (c2.give l now).1 :=
 h.callB fun _ _ _ r hf => RGive_ok r x l (hof.up h.g (Nat.le_refl _)) hfit (· < w0.heap.size) hof.inn (fun b hb => ⟨Nat.lt_of_lt_of_le hb h.g.size, fun hq => by have := hf b hq; omega⟩) now hnow hroom
theorem pWant (h : Pair16 w0 w L R p p2 c c2) : Calls Tryz.prog 39 #[.pointer (some ⟨p, 0, none⟩)] w fun e w' => e = .returned (.int .i64 c.want) ∧ w.grownBy w' none := by
 obtain ⟨I, sv, pv, r⟩ := h.repA
 exact Want_ok r
theorem pFetches (h : Pair16 w0 w L R p p2 c c2) : Calls Tryz.prog 42 #[.pointer (some ⟨p, 0, none⟩)] w fun e w' => e = .returned (.int .i64 c.fet) ∧ w.grownBy w' none := by
 obtain ⟨I, sv, pv, r⟩ := h.repA
 exact Fetches_ok r
theorem pStore (h : Pair16 w0 w L R p p2 c c2) : Calls Tryz.prog 36 #[.pointer (some ⟨p, 0, none⟩)] w fun e w' => ∃ a n k, e = .returned (.slice a n k) ∧ w.grownBy w' none ∧ Pair16 w0 w' L ((.slice a n k, c.store) :: R) p p2 c c2 := by
 obtain ⟨I, sv, pv, r⟩ := h.repA
 refine (Store_ok r).mono ?_
 rintro e w' ⟨a, n, k, rfl, hc⟩
 exact ⟨a, n, k, rfl, hc.1, h.copies hc⟩
theorem pTrace (h : Pair16 w0 w L R p p2 c c2) : Calls Tryz.prog 48 #[.pointer (some ⟨p, 0, none⟩)] w fun e w' => ∃ a n k, e = .returned (.slice a n k) ∧ w.grownBy w' none ∧ Pair16 w0 w' L ((.slice a n k, c.trace) :: R) p p2 c c2 := by
 obtain ⟨I, sv, pv, r⟩ := h.repA
 refine (Trace_ok r).mono ?_
 rintro e w' ⟨a, n, k, rfl, hc⟩
 exact ⟨a, n, k, rfl, hc.1, h.copies hc⟩
theorem rTrace (h : Pair16 w0 w L R p p2 c c2) : Calls Tryz.prog 49 #[.pointer (some ⟨p2, 0, none⟩)] w fun e w' => ∃ a n k, e = .returned (.slice a n k) ∧ w.grownBy w' none ∧ ∃ I, LRow I w' (.slice a n k) c2.trace := by
 obtain ⟨I, sv, pv, r⟩ := h.repB
 refine (RTrace_ok r).mono ?_
 rintro e w' ⟨a, n, k, rfl, hr, g⟩
 exact ⟨a, n, k, rfl, g, I, hr⟩
theorem rNew (x : LtR) (l : LightD) (now : Nat) (o : OptD) (hof : x.of w0.heap.size w0 l) (hfit : l.fit) (hnow : now < 18446744073709551616) (ho : o.wf) (h : Kept16 125 w0 w L [] p c) :
  Calls Tryz.prog 43 #[.agg x.cells.toArray, .float .f64 now, .agg o.cells.toArray] w fun e w' => ∃ P, e = .returned (.tuple #[P, .int .i64 (bnewE l now o)]) ∧ w.grownBy w' none ∧
   ((bnewE l now o ≠ 0 ∧ P = .pointer none) ∨ (bnewE l now o = 0 ∧ ∃ p2, P = .pointer (some ⟨p2, 0, none⟩) ∧ Pair16 w0 w' L [] p p2 c (BcD.new l o))) := by
 refine (RNew_ok x l now o w (hof.up h.g (Nat.le_refl _)) hfit hnow ho (· < w0.heap.size) hof.inn (fun b hb => Nat.lt_of_lt_of_le hb h.g.size)).mono ?_
 rintro e w' ⟨g, ⟨h1, h2⟩ | ⟨h1, q, sv2, rfl, r2, f2⟩⟩
 ·exact ⟨_, h2, g, .inl ⟨h1, rfl⟩⟩
 ·obtain ⟨K, I, sv, pv, r, hi, hf, hI, hK, hR⟩ := h.ex
  have hz := h.g.size
  refine ⟨_, by rw [h1], g, .inr ⟨h1, q, rfl, ⟨fun e he => (h.own e he).grown g (by simp), h.new, h.nodup, h.g.trans g, fun _ => False, I, fun b => b < w0.heap.size, sv, pv, sv2, _, r.grown g, r2, hi, ?_, ?_, hI, fun _ h => h, fun _ h => h.elim, by simp⟩⟩⟩
  ·exact fun b hb => ⟨(hf b hb).1, id, fun q => by have := f2 b q; have := r.lt hb; omega, (hf b hb).2.2⟩
  ·exact fun b hb => ⟨Nat.le_trans hz (f2 b hb), id, fun q => by have := f2 b hb; have := (r.out b q).1; omega, fun e he e1 => by have := f2 b hb; have := (h.own e he).lt; omega⟩
theorem rNewErr (x : LtR) (l : LightD) (now : Nat) (o : OptD) (hof : x.of w0.heap.size w0 l) (hfit : l.fit) (hnow : now < 18446744073709551616) (ho : o.wf) (g0 : w0.grownBy w none) :
  Calls Tryz.prog 43 #[.agg x.cells.toArray, .float .f64 now, .agg o.cells.toArray] w fun e w' => ∃ P, e = .returned (.tuple #[P, .int .i64 (bnewE l now o)]) ∧ w.grownBy w' none := by
 refine (RNew_ok x l now o w (hof.up g0 (Nat.le_refl _)) hfit hnow ho (· < w0.heap.size) hof.inn (fun b hb => Nat.lt_of_lt_of_le hb g0.size)).mono ?_
 rintro e w' ⟨g, ⟨h1, h2⟩ | ⟨h1, q, sv2, rfl, r2, f2⟩⟩
 ·exact ⟨_, h2, g⟩
 ·exact ⟨_, by rw [h1], g⟩
theorem prune_total (c : BcD) (n : Int) : (c.prune n).1.store.length + (c.prune n).1.pend.length ≤ c.store.length + c.pend.length := by
 unfold BcD.prune
 split
 ·exact Nat.le_refl _
 ·simp; omega
end
set_option maxHeartbeats 8000000 in
theorem BisectPlays_any (v : Value) (xs : List LtR) (o : OptD) (sv : Value) (s : List ActD) (w0 : World) (hx : Came w0 v xs) (ho : o.wf) (hs : RdS w0.heap.size w0 sv s.length 4 (actsCells s)) (hsw : ∀ a ∈ s, a.wf) (hR : RowAt w0 1 0 (wCells rootsL)) :
  Calls Tryz.prog 12 #[v, .agg o.cells.toArray, sv] w0 fun e w' => e = .returned (.bool true) ∧ w0.grownBy w' none := by
 have O := OwF.start (fun _ => False) w0
 have CA := Lib.hid (fun w (g : w0.grownBy w none) => alive16_ok w (hR.grown g (by simp)))
 have HXA := Lib.hid (fun k hk => lts_at hx.row hx.wf k hk)
 have HX := Lib.hid hx; have HR := Lib.hid hR
 have CG := Lib.hid (fun (a : ActD) (ha : a.wf) (z : Int) w (g : w0.grownBy w none) => given_ok a v xs z w (hx.row.grown g) hx.wf ha)
 have HSA := Lib.hid (fun k hk => acts_at hs k hk)
 have HSW := Lib.hid hsw
 have CF := fun w (g : w0.grownBy w none) => few_ok v xs w (hx.row.grown g) hx.wf
 have HOW := Lib.hid ho
 obtain ⟨ao, cp, rfl, hle, hcm, _, _⟩ := hx.row
 unfold maxLen at hcm
 obtain ⟨N, hN⟩ : ∃ n, xs.length = n := ⟨_, rfl⟩
 rw [hN] at hle CG
 rw [hN]
 have HN := Lib.hid hN
 obtain ⟨bo, dp, rfl, hle2, hcm2, _, _⟩ := hs
 unfold maxLen at hcm2
 obtain ⟨M, hM⟩ : ∃ n, s.length = n := ⟨_, rfl⟩
 rw [hM] at hle2
 rw [hM]
 have HM := Lib.hid hM
 obtain ⟨q, hq⟩ : ∃ q, (decide (xs.length ≤ 14) && xs.all fewLt) = q := ⟨_, rfl⟩
 have HFIT : Hid (q = true → ∀ x ∈ xs, ∃ l, x.of w0.heap.size w0 l ∧ l.fit) := Lib.hid (fun h => by
  rw [h, Bool.and_eq_true] at hq
  exact HX.out.fit hq.2)
 rw [hq, hN] at CF
 replace CF := Lib.hid CF
 clear hx hsw hR hN hM hq ho
 go_enter Tryz.func12, Tryz.ntmps12
 go_wp2_with (first | ((with_reducible refine @wpList_at _ _ _ _ _ _ _ (.box 35 (.tmp 1)) rfl ?_); refine @wpList_of_box _ _ _ _ _ _ _ _ _ _ 35 (.tmp 1) rfl o.cells rfl O rfl ?_; clear O; intro bq w O))
 refine (CF.out _ (O.tch.grown (fun _ h => h.elim))).mono ?_
 rintro e w ⟨rfl, g⟩
 replace O := O.call g
 clear g
 cases q with
 | false =>
  go_wp2_with fail
  refine (CA.out _ (O.tch.grown (fun _ h => h.elim))).mono ?_
  rintro e w ⟨rfl, g⟩
  replace O := O.call g
  clear g
  go_wp2_with fail
  go_ret
  exact ⟨rfl, O.tch.grown (fun _ h => h.elim)⟩
 | true =>
 replace HFIT := Lib.hid (HFIT.out (by trivial))
 rcases Nat.eq_zero_or_pos N with hN0 | hN0
 ·subst hN0
  go_wp2_with fail
  refine (CA.out _ (O.tch.grown (fun _ h => h.elim))).mono ?_
  rintro e w ⟨rfl, g⟩
  replace O := O.call g
  clear g
  go_wp2_with fail
  go_ret
  exact ⟨rfl, O.tch.grown (fun _ h => h.elim)⟩
 rcases Nat.eq_zero_or_pos M with hM0 | hM0
 ·subst hM0
  have hN1 : ¬ (N : Int) = 0 := by omega
  have hN2 : ¬ N = 0 := by omega
  have hN3 : ((N : Int) == 0) = false := by simpa using hN2
  clear hN0
  go_wp2_with fail
  refine (CA.out _ (O.tch.grown (fun _ h => h.elim))).mono ?_
  rintro e w ⟨rfl, g⟩
  replace O := O.call g
  clear g
  go_wp2_with fail
  go_ret
  exact ⟨rfl, O.tch.grown (fun _ h => h.elim)⟩
 have hN1 : ¬ (N : Int) = 0 := by omega
 have hN2 : ¬ N = 0 := by omega
 have hM1 : ¬ (M : Int) = 0 := by omega
 have hM2 : ¬ M = 0 := by omega
 have hN3 : ((N : Int) == 0) = false := by simpa using hN2
 have hM3 : ((M : Int) == 0) = false := by simpa using hM2
 have hkx : 0 < xs.length := by rw [HN.out]; exact hN0
 obtain ⟨g, of, c, hv, hgB, hrow⟩ := HXA.out 0 hkx
 have e1 := (Value.slice.inj hv).1
 subst e1
 rw [Nat.zero_mul, Nat.add_zero] at hrow
 obtain ⟨x, hx0⟩ : ∃ x, xs[0] = x := ⟨_, rfl⟩
 rw [hx0] at hrow
 obtain ⟨l0, hof, hfit⟩ := HFIT.out x (hx0 ▸ List.getElem_mem hkx)
 have XW := Lib.hid (hof.wf hfit.wf)
 have FX := Lib.hid hrow
 have hks : 0 < s.length := by rw [HM.out]; exact hM0
 obtain ⟨g2, o2, c2, hv2, hgB2, hrow2⟩ := HSA.out 0 hks
 have e2 := (Value.slice.inj hv2).1
 subst e2
 rw [Nat.zero_mul, Nat.add_zero] at hrow2
 obtain ⟨a0, ha0⟩ : ∃ x, s[0] = x := ⟨_, rfl⟩
 rw [ha0] at hrow2
 have ha0w : a0.wf := HSW.out a0 (ha0 ▸ List.getElem_mem hks)
 have F0 := Lib.hid (RowAt.one (hrow2 3 _ rfl))
 have CN := Lib.hid (fun w (O : OwF (fun _ => False) w0 w [(bq, o.cells, 35)]) => kNew x l0 a0.now o hof hfit ha0w.now HOW.out HR.out O)
 have CN2 := Lib.hid (fun w p (h : Kept16 125 w0 w [(bq, o.cells, 35)] [] p (BcD.new l0 o)) => rNew x l0 a0.now o hof hfit ha0w.now HOW.out h)
 have CN3 := Lib.hid (fun w (g : w0.grownBy w none) => rNewErr x l0 a0.now o hof hfit ha0w.now HOW.out g)
 have HS0 := Lib.hid (show (BcD.new l0 o).store.length + (BcD.new l0 o).pend.length ≤ 1 from Nat.le_refl _)
 obtain ⟨V, hV⟩ : ∃ z, bnewE l0 a0.now o = z := ⟨_, rfl⟩
 rw [hV] at CN CN2 CN3
 have hix : ¬ ((N : Int) ≤ 0) := by omega
 have hix2 : ¬ ((M : Int) ≤ 0) := by omega
 clear hrow hrow2 hof hfit ha0w hx0 ha0 hv hv2 hkx hks hV
 go_upto_region 4 with (fail)
 replace O := O.drew
 refine wp_region_J (rdf [(2, g, of, x.cells), (6, g2, (o2 + 3), [(.float .f64 a0.now)]), (7, bq, 0, o.cells)]) [8] (by kernel_rfl) (RdA.cons (FX.out.grown (O.tch.grown (fun _ h => h.elim)) (by simp)) (RdA.cons (F0.out.grown (O.tch.grown (fun _ h => h.elim)) (by simp)) (RdA.cons (O.row_of (g := bq) (T := 35) (by simp)) RdA.nil))) (fun hH => ?_)
 refine jp 0 ((.slice (some ⟨g, of, none⟩) N cp)) (Still.all hH) ?_
 simp only [Act.put, jq1, jq3, jq4, jq5, jq6]
 refine jp 1 ((.pointer (some ⟨g, of, none⟩))) (Still.all hH) ?_
 simp only [Act.put, jq1, jq2, jq3, jq4, jq5, jq6]
 refine jr 0 2 ((.agg (x.cells).toArray)) rfl rfl (yieldsIf_load_mid (by rfl) 31 _ rfl g of rfl x.cells _ (fun W h => h) Tryz.underlying31 rfl (sizeLt _ XW.out)) (Still.all hH) ?_
 simp only [Act.put, jq1, jq2, jq3, jq4, jq5, jq6]
 refine jp 3 ((.slice (some ⟨g2, o2, none⟩) M dp)) (Still.all hH) ?_
 simp only [Act.put, jq1, jq2, jq3, jq4, jq5, jq6]
 refine jp 4 ((.pointer (some ⟨g2, o2, none⟩))) (Still.all hH) ?_
 simp only [Act.put, jq1, jq2, jq3, jq4, jq5, jq6]
 refine jp 5 ((.pointer (some ⟨g2, o2 + 3, none⟩))) (Still.all hH) ?_
 simp only [Act.put, jq1, jq2, jq3, jq4, jq5, jq6]
 refine jr 1 6 ((.float .f64 a0.now)) rfl rfl (yields_cell (by rfl) 33 _ rfl g2 (o2 + 3) rfl (.float .f64 a0.now) _ (fun W h => h) Tryz.underlying33 rfl) (Still.all hH) ?_
 simp only [Act.put, jq1, jq2, jq3, jq4, jq5, jq6]
 refine jr 2 7 ((.agg (o.cells).toArray)) rfl rfl (yieldsIf_load_mid (by rfl) 35 _ rfl bq 0 rfl o.cells _ (fun W h => h) Tryz.underlying35 rfl sizeOpt) (Still.all hH) ?_
 simp only [Act.put, jq1, jq2, jq3, jq4, jq5, jq6]
 refine wpAnyJ_ready (rs := [8]) (by kernel_rfl) (by simp) ?_
 refine AllJ.turn rfl (by rfl) (by rfl) (fun K hK => ?_) (AllJ.nil)
 refine wp_call 35 _ _ (by rfl) (enters Tryz.func35 (by kernel_rfl) rfl) (by rfl) (CN.out _ O) ?_
 rintro e u ⟨P, rfl, g1, hN⟩
 refine ⟨_, rfl, ?_⟩
 have HK := Lib.hid hN
 clear hN
 replace O := O.call g1
 clear g1
 simp only [Act.put, jq1, jq2, jq3, jq4, jq5, jq6]
 refine hK.out _ _ (waits_all (by kernel_rfl)) ?_
 clear hK K hH
 refine jp 9 ((.tuple #[P, .int .i64 V])) (Still.none (by kernel_rfl)) ?_
 simp only [Act.put, jq1, jq2, jq3, jq4, jq5, jq6]
 refine jp 10 (P) (Still.none (by kernel_rfl)) ?_
 simp only [Act.put, jq1, jq2, jq3, jq4, jq5, jq6]
 refine jp 11 ((.int .i64 V)) (Still.none (by kernel_rfl)) ?_
 simp only [Act.put, jq1, jq2, jq3, jq4, jq5, jq6]
 refine jp 12 (P) (Still.none (by kernel_rfl)) ?_
 simp only [Act.put, jq1, jq2, jq3, jq4, jq5, jq6]
 refine jp 13 ((.int .i64 V)) (Still.none (by kernel_rfl)) ?_
 simp only [Act.put, jq1, jq2, jq3, jq4, jq5, jq6]
 refine wpAnyJ_done (by kernel_rfl) ?_ _
 rcases HK.out with ⟨h1, rfl⟩ | ⟨h1, p, rfl, H⟩
 ·have d1 : (V != 0) = true := by simpa using h1
  clear h1
  go_upto_region 5 with (fail)
  replace O := O.drew
  refine wp_region_J (rdf [(2, g, of, x.cells), (6, g2, (o2 + 3), [(.float .f64 a0.now)]), (7, bq, 0, o.cells)]) [8] (by kernel_rfl) (RdA.cons (FX.out.grown (O.tch.grown (fun _ h => h.elim)) (by simp)) (RdA.cons (F0.out.grown (O.tch.grown (fun _ h => h.elim)) (by simp)) (RdA.cons (O.row_of (g := bq) (T := 35) (by simp)) RdA.nil))) (fun hH => ?_)
  refine jp 0 ((.slice (some ⟨g, of, none⟩) N cp)) (Still.all hH) ?_
  simp only [Act.put, jq1, jq3, jq4, jq5, jq6]
  refine jp 1 ((.pointer (some ⟨g, of, none⟩))) (Still.all hH) ?_
  simp only [Act.put, jq1, jq2, jq3, jq4, jq5, jq6]
  refine jr 0 2 ((.agg (x.cells).toArray)) rfl rfl (yieldsIf_load_mid (by rfl) 31 _ rfl g of rfl x.cells _ (fun W h => h) Tryz.underlying31 rfl (sizeLt _ XW.out)) (Still.all hH) ?_
  simp only [Act.put, jq1, jq2, jq3, jq4, jq5, jq6]
  refine jp 3 ((.slice (some ⟨g2, o2, none⟩) M dp)) (Still.all hH) ?_
  simp only [Act.put, jq1, jq2, jq3, jq4, jq5, jq6]
  refine jp 4 ((.pointer (some ⟨g2, o2, none⟩))) (Still.all hH) ?_
  simp only [Act.put, jq1, jq2, jq3, jq4, jq5, jq6]
  refine jp 5 ((.pointer (some ⟨g2, o2 + 3, none⟩))) (Still.all hH) ?_
  simp only [Act.put, jq1, jq2, jq3, jq4, jq5, jq6]
  refine jr 1 6 ((.float .f64 a0.now)) rfl rfl (yields_cell (by rfl) 33 _ rfl g2 (o2 + 3) rfl (.float .f64 a0.now) _ (fun W h => h) Tryz.underlying33 rfl) (Still.all hH) ?_
  simp only [Act.put, jq1, jq2, jq3, jq4, jq5, jq6]
  refine jr 2 7 ((.agg (o.cells).toArray)) rfl rfl (yieldsIf_load_mid (by rfl) 35 _ rfl bq 0 rfl o.cells _ (fun W h => h) Tryz.underlying35 rfl sizeOpt) (Still.all hH) ?_
  simp only [Act.put, jq1, jq2, jq3, jq4, jq5, jq6]
  refine wpAnyJ_ready (rs := [8]) (by kernel_rfl) (by simp) ?_
  refine AllJ.turn rfl (by rfl) (by rfl) (fun K hK => ?_) (AllJ.nil)
  refine wp_call 43 _ _ (by rfl) (enters Tryz.func43 (by kernel_rfl) rfl) (by rfl) (CN3.out _ (O.tch.grown (fun _ h => h.elim))) ?_
  rintro e u2 ⟨P2, rfl, g2⟩
  refine ⟨_, rfl, ?_⟩
  replace O := O.call g2
  clear g2
  simp only [Act.put, jq1, jq2, jq3, jq4, jq5, jq6]
  refine hK.out _ _ (waits_all (by kernel_rfl)) ?_
  clear hK K hH
  refine jp 9 ((.tuple #[P2, .int .i64 V])) (Still.none (by kernel_rfl)) ?_
  simp only [Act.put, jq1, jq2, jq3, jq4, jq5, jq6]
  refine jp 10 (P2) (Still.none (by kernel_rfl)) ?_
  simp only [Act.put, jq1, jq2, jq3, jq4, jq5, jq6]
  refine jp 11 ((.int .i64 V)) (Still.none (by kernel_rfl)) ?_
  simp only [Act.put, jq1, jq2, jq3, jq4, jq5, jq6]
  refine jp 12 (P2) (Still.none (by kernel_rfl)) ?_
  simp only [Act.put, jq1, jq2, jq3, jq4, jq5, jq6]
  refine jp 13 ((.int .i64 V)) (Still.none (by kernel_rfl)) ?_
  simp only [Act.put, jq1, jq2, jq3, jq4, jq5, jq6]
  refine wpAnyJ_done (by kernel_rfl) ?_ _
  go_wp2_with fail
  refine (CA.out _ (O.tch.grown (fun _ h => h.elim))).mono ?_
  rintro e w ⟨rfl, g⟩
  replace O := O.call g
  clear g
  go_wp2_with fail
  go_ret
  exact ⟨rfl, O.tch.grown (fun _ h => h.elim)⟩
 subst h1
 clear O HK CN CN3
 replace H := Lib.hid H
 go_upto_region 5 with (fail)
 have O := OwF.start (fun _ => False) u
 replace O := O.drew
 refine wp_region_J (rdf [(2, g, of, x.cells), (6, g2, (o2 + 3), [(.float .f64 a0.now)]), (7, bq, 0, o.cells)]) [8] (by kernel_rfl) (RdA.cons (FX.out.grown (H.out.g.trans (O.tch.grown (fun _ h => h.elim))) (by simp)) (RdA.cons (F0.out.grown (H.out.g.trans (O.tch.grown (fun _ h => h.elim))) (by simp)) (RdA.cons ((H.out.own (bq, o.cells, 35) (by simp)).row.grown (O.tch.grown (fun _ h => h.elim)) (by simp)) RdA.nil))) (fun hH => ?_)
 refine jp 0 ((.slice (some ⟨g, of, none⟩) N cp)) (Still.all hH) ?_
 simp only [Act.put, jq1, jq3, jq4, jq5, jq6]
 refine jp 1 ((.pointer (some ⟨g, of, none⟩))) (Still.all hH) ?_
 simp only [Act.put, jq1, jq4]
 refine jr 0 2 ((.agg (x.cells).toArray)) rfl rfl (yieldsIf_load_mid (by rfl) 31 _ rfl g of rfl x.cells _ (fun W h => h) Tryz.underlying31 rfl (sizeLt _ XW.out)) (Still.all hH) ?_
 simp only [Act.put, jq1, jq2, jq3, jq4, jq5, jq6]
 refine jp 3 ((.slice (some ⟨g2, o2, none⟩) M dp)) (Still.all hH) ?_
 simp only [Act.put, jq1, jq2, jq3, jq4, jq5, jq6]
 refine jp 4 ((.pointer (some ⟨g2, o2, none⟩))) (Still.all hH) ?_
 simp only [Act.put, jq1, jq2, jq3, jq4, jq5, jq6]
 refine jp 5 ((.pointer (some ⟨g2, o2 + 3, none⟩))) (Still.all hH) ?_
 simp only [Act.put, jq1, jq2, jq3, jq4, jq5, jq6]
 refine jr 1 6 ((.float .f64 a0.now)) rfl rfl (yields_cell (by rfl) 33 _ rfl g2 (o2 + 3) rfl (.float .f64 a0.now) _ (fun W h => h) Tryz.underlying33 rfl) (Still.all hH) ?_
 simp only [Act.put, jq1, jq2, jq3, jq4, jq5, jq6]
 refine jr 2 7 ((.agg (o.cells).toArray)) rfl rfl (yieldsIf_load_mid (by rfl) 35 _ rfl bq 0 rfl o.cells _ (fun W h => h) Tryz.underlying35 rfl sizeOpt) (Still.all hH) ?_
 simp only [Act.put, jq1, jq2, jq3, jq4, jq5, jq6]
 refine wpAnyJ_ready (rs := [8]) (by kernel_rfl) (by simp) ?_
 refine AllJ.turn rfl (by rfl) (by rfl) (fun K hK => ?_) (AllJ.nil)
 refine wp_call 43 _ _ (by rfl) (enters Tryz.func43 (by kernel_rfl) rfl) (by rfl) (CN2.out _ _ (H.out.grown (O.tch.grown (fun _ h => h.elim)))) ?_
 rintro e u2 ⟨P2, rfl, g2, hN2⟩
 refine ⟨_, rfl, ?_⟩
 have HK2 := Lib.hid hN2
 clear hN2
 replace O := O.call g2
 clear g2
 simp only [Act.put, jq1, jq2, jq3, jq4, jq5, jq6]
 refine hK.out _ _ (waits_all (by kernel_rfl)) ?_
 clear hK K hH
 refine jp 9 ((.tuple #[P2, .int .i64 0])) (Still.none (by kernel_rfl)) ?_
 simp only [Act.put, jq1, jq2, jq3, jq4, jq5, jq6]
 refine jp 10 (P2) (Still.none (by kernel_rfl)) ?_
 simp only [Act.put, jq1, jq2, jq3, jq4, jq5, jq6]
 refine jp 11 ((.int .i64 0)) (Still.none (by kernel_rfl)) ?_
 simp only [Act.put, jq1, jq2, jq3, jq4, jq5, jq6]
 refine jp 12 (P2) (Still.none (by kernel_rfl)) ?_
 simp only [Act.put, jq1, jq2, jq3, jq4, jq5, jq6]
 refine jp 13 ((.int .i64 0)) (Still.none (by kernel_rfl)) ?_
 simp only [Act.put, jq1, jq2, jq3, jq4, jq5, jq6]
 refine wpAnyJ_done (by kernel_rfl) ?_ _
 clear hix hix2
 rcases HK2.out with ⟨h1, _⟩ | ⟨_, p2, rfl, H2⟩
 ·exact absurd rfl h1
 clear O HK2 CN2 H
 have H := Lib.hid H2
 clear H2
 go_wp2_with fail
 go_loopw [12] (fun i wr => ∃ (k : Nat) (c : BcD), 1 ≤ k ∧ k ≤ 40 ∧ k ≤ M ∧ i = .int .i64 k ∧ Pair16 w0 wr [(bq, o.cells, 35)] [] p p2 c c ∧ c.store.length + c.pend.length ≤ k) (fun i _ => 41 - (intOf i).toNat)
 case atStart => exact ⟨1, _, Nat.le_refl _, by omega, hM0, rfl, H.out, HS0.out⟩
 case round =>
  clear H HS0
  obtain ⟨k, c0, hk1, hk40, hkM, rfl, hH, htot⟩ := hrel
  have H := Lib.hid hH; have HT := Lib.hid htot
  clear hH htot
  by_cases hlt : k < M
  case neg =>
   obtain rfl : k = M := by omega
   go_wp2_with fail
   refine (CA.out _ H.out.g).mono ?_
   rintro e w ⟨rfl, g⟩
   replace H := Lib.hid (H.out.grown g)
   clear g
   go_wp2_with fail
   go_ret
   exact ⟨rfl, H.out.g⟩
  by_cases h40 : k < 40
  case neg =>
   obtain rfl : k = 40 := by omega
   go_wp2_with fail
   refine (CA.out _ H.out.g).mono ?_
   rintro e w ⟨rfl, g⟩
   replace H := Lib.hid (H.out.grown g)
   clear g
   go_wp2_with fail
   go_ret
   exact ⟨rfl, H.out.g⟩
  have hks : k < s.length := by rw [HM.out]; exact hlt
  obtain ⟨g3, o3, c3, hv2, hgB2, hrow2⟩ := HSA.out k hks
  have e2 := (Value.slice.inj hv2).1
  injection e2 with e2
  injection e2 with e2a e2b _
  subst e2a e2b
  obtain ⟨a, ha⟩ : ∃ x, s[k] = x := ⟨_, rfl⟩
  rw [ha] at hrow2
  have HAW := Lib.hid (show a.wf from HSW.out a (ha ▸ List.getElem_mem hks))
  have FA := Lib.hid (hrow2.grown H.out.g (by simp))
  have CGa := Lib.hid (CG.out a HAW.out)
  have hix : ¬ ((M : Int) ≤ (k : Int)) := by omega
  clear hrow2 ha hv2 hks
  have O := H.out.O
  have FA := Lib.hid (fun u (t : Tch (fun b => ∃ e ∈ [(bq, o.cells, 35)], e.1 = b) wr u) => t.row FA.out (fun h => by obtain ⟨e, he, e1⟩ := h; have h1 := H.out.new e he; rw [e1] at h1; omega))
  go_upto_block 2 with (first | ((with_reducible refine @wpList_at _ _ _ _ _ _ _ (.load 78 (.tmp 88)) rfl ?_); refine wpList_load_part rfl 78 _ rfl g2 ((o2 + k * 4)) rfl a.cells _ (FA.out _ O.tch) Tryz.underlying78 rfl (sizeAct a) ?_) | ((with_reducible refine @wpList_at _ _ _ _ _ _ _ (.alloc 78) rfl ?_); refine @wpList_of_alloc _ _ _ _ _ _ _ _ _ _ 78 rfl ZAct ZAct_info O rfl ?_; clear O; intro ba w O) | ((with_reducible refine @wpList_at _ _ _ _ _ _ _ (.store 78 (.tmp 13) (.tmp 89)) rfl ?_); refine @wpList_of_store _ _ _ _ _ _ _ _ _ _ 78 (.tmp 13) (.tmp 89) rfl O 0 ba rfl a.cells ZAct _ rfl rfl rfl (ActD_one a) (sizeAct a) rfl ?_; clear O; intro w O; simp only [List.set_cons_zero] at O) | ((with_reducible refine @wpList_at _ _ _ _ _ _ _ (.load 3 (.tmp 90)) rfl ?_); refine @wpList_of_cell _ _ _ _ _ _ _ _ _ _ 3 (.tmp 90) rfl O 0 ba 0 rfl _ _ rfl _ rfl _ Tryz.underlying3 rfl rfl ?_))
  simp only [Act.put, jq4, jq5, jq6]
  replace H := Lib.hid (H.out.move O)
  clear O
  go_cut [14, 15] from 76 to 176 (fun s14 s15 w' => ∃ c' : BcD, Pair16 w0 w' [(ba, a.cells, 78), (bq, o.cells, 35)] [] p p2 c' c' ∧ c'.store.length + c'.pend.length ≤ k + 1)
  case first =>
   by_cases c1 : a.kind = 1
   ·have d1 : (a.kind == 1) = true := by simpa using c1
    clear c1
    go_upto_region 16 with (fail)
    have BA := Lib.hid (H.out.own (ba, a.cells, 78) (by simp)).row
    have O := OwF.start (fun _ => False) w
    replace O := O.drew
    have CGo := Lib.hid (fun u (gg : w.grownBy u none) => pGoal (H.out.grown gg) a.n)
    have HG := Lib.hid (goal_total c0 a.n)
    obtain ⟨E, hE⟩ : ∃ z, (c0.goal a.n).2 = z := ⟨_, rfl⟩
    have CGR := Lib.hid (fun (w1 : World) (c9 : BcD) (h : Pair16 w0 w1 [(ba, a.cells, 78), (bq, o.cells, 35)] [] p p2 c9 c0) => rGoal h a.n)
    rw [hE] at CGo CGR
    clear hE
    refine wp_region_J (rdf [(2, ba, 1, [(.int .i64 a.n)]), (6, ba, 1, [(.int .i64 a.n)])]) [3, 7] (by kernel_rfl) (RdA.cons ((RowAt.one (BA.out 1 _ rfl)).grown (O.tch.grown (fun _ h => h.elim)) (by simp)) (RdA.cons ((RowAt.one (BA.out 1 _ rfl)).grown (O.tch.grown (fun _ h => h.elim)) (by simp)) RdA.nil)) (fun hH => ?_)
    refine jp 0 ((.pointer (some ⟨p, 0, none⟩))) (Still.all hH) ?_
    simp only [Act.put, jq1, jq3, jq4, jq5, jq6]
    refine jp 1 ((.pointer (some ⟨ba, 1, none⟩))) (Still.all hH) ?_
    simp only [Act.put, jq1, jq2, jq3, jq4, jq5, jq6]
    refine jr 0 2 ((.int .i64 a.n)) rfl rfl (yields_cell (by rfl) 3 _ rfl ba 1 rfl (.int .i64 a.n) _ (fun W h => h) Tryz.underlying3 rfl) (Still.all hH) ?_
    simp only [Act.put, jq1, jq2, jq3, jq4, jq5, jq6]
    refine jp 4 ((.pointer (some ⟨p2, 0, none⟩))) (Still.all hH) ?_
    simp only [Act.put, jq1, jq2, jq3, jq4, jq5, jq6]
    refine jp 5 ((.pointer (some ⟨ba, 1, none⟩))) (Still.all hH) ?_
    simp only [Act.put, jq1, jq2, jq3, jq4, jq5, jq6]
    refine jr 1 6 ((.int .i64 a.n)) rfl rfl (yields_cell (by rfl) 3 _ rfl ba 1 rfl (.int .i64 a.n) _ (fun W h => h) Tryz.underlying3 rfl) (Still.all hH) ?_
    simp only [Act.put, jq1, jq2, jq3, jq4, jq5, jq6]
    refine wpAnyJ_ready (rs := [3]) (by kernel_rfl) (by simp) ?_
    refine AllJ.keep rfl (by rfl) (by rfl) (fun K hK => ?_) (AllJ.nil)
    refine wp_call 37 _ _ (by rfl) (enters Tryz.func37 (by kernel_rfl) rfl) (by rfl) (CGo.out _ (O.tch.grown (fun _ h => h.elim))) ?_
    rintro e u3 ⟨rfl, H3⟩
    refine ⟨_, rfl, ?_⟩
    have HQ := Lib.hid H3
    clear H3 O
    simp only [Act.put, jq1, jq2, jq3, jq4, jq5, jq6]
    have hH2 : RdA [(2, ba, 1, [.int .i64 a.n]), (6, ba, 1, [.int .i64 a.n])] _ := (RdA.cons (RowAt.one ((HQ.out.own (ba, a.cells, 78) (by simp)).row 1 _ rfl)) (RdA.cons (RowAt.one ((HQ.out.own (ba, a.cells, 78) (by simp)).row 1 _ rfl)) RdA.nil))
    refine hK.out _ _ hH2 ?_
    replace hH := hH2
    clear hK K hH2
    refine wpAnyJ_ready (rs := [7]) (by kernel_rfl) (by simp) ?_
    refine AllJ.keep rfl (by rfl) (by rfl) (fun K hK => ?_) (AllJ.nil)
    refine wp_call 44 _ _ (by rfl) (enters Tryz.func44 (by kernel_rfl) rfl) (by rfl) (CGR.out _ _ HQ.out) ?_
    rintro e u4 ⟨rfl, H4⟩
    refine ⟨_, rfl, ?_⟩
    have HQ2 := Lib.hid H4
    clear H4
    simp only [Act.put, jq1, jq2, jq3, jq4, jq5, jq6]
    have hH2 : RdA [(2, ba, 1, [.int .i64 a.n]), (6, ba, 1, [.int .i64 a.n])] _ := (RdA.cons (RowAt.one ((HQ2.out.own (ba, a.cells, 78) (by simp)).row 1 _ rfl)) (RdA.cons (RowAt.one ((HQ2.out.own (ba, a.cells, 78) (by simp)).row 1 _ rfl)) RdA.nil))
    refine hK.out _ _ hH2 ?_
    replace hH := hH2
    clear hK K hH2
    refine jp 8 ((.bool false)) (Still.all hH) ?_
    simp only [Act.put, jq1, jq2, jq3, jq4, jq5, jq6]
    refine wpAnyJ_done (by kernel_rfl) ?_ _
    clear hH
    go_wp2_with fail
    go_meet
    case rel => exact ⟨_, HQ2.out, by have := HG.out; have := HT.out; omega⟩
   have d1 : (a.kind == 1) = false := by simpa using c1
   by_cases c4 : a.kind = 4
   ·have d2 : (a.kind == 2) = false := by rw [c4]; rfl
    have d3 : (a.kind == 3) = false := by rw [c4]; rfl
    have d4 : (a.kind == 4) = true := by simpa using c4
    clear c1 c4
    go_upto_region 24 with (fail)
    have BA := Lib.hid (H.out.own (ba, a.cells, 78) (by simp)).row
    have O := OwF.start (fun _ => False) w
    replace O := O.drew
    have CGo := Lib.hid (fun u (gg : w.grownBy u none) => pPrune (H.out.grown gg) a.n HAW.out.n)
    have HG := Lib.hid (prune_total c0 a.n)
    obtain ⟨E, hE⟩ : ∃ z, (c0.prune a.n).2 = z := ⟨_, rfl⟩
    have CGR := Lib.hid (fun (w1 : World) (c9 : BcD) (h : Pair16 w0 w1 [(ba, a.cells, 78), (bq, o.cells, 35)] [] p p2 c9 c0) => rPrune h a.n HAW.out.n)
    rw [hE] at CGo CGR
    clear hE
    refine wp_region_J (rdf [(2, ba, 1, [(.int .i64 a.n)]), (6, ba, 1, [(.int .i64 a.n)])]) [3, 7] (by kernel_rfl) (RdA.cons ((RowAt.one (BA.out 1 _ rfl)).grown (O.tch.grown (fun _ h => h.elim)) (by simp)) (RdA.cons ((RowAt.one (BA.out 1 _ rfl)).grown (O.tch.grown (fun _ h => h.elim)) (by simp)) RdA.nil)) (fun hH => ?_)
    refine jp 0 ((.pointer (some ⟨p, 0, none⟩))) (Still.all hH) ?_
    simp only [Act.put, jq1, jq3, jq4, jq5, jq6]
    refine jp 1 ((.pointer (some ⟨ba, 1, none⟩))) (Still.all hH) ?_
    simp only [Act.put, jq1, jq4]
    refine jr 0 2 ((.int .i64 a.n)) rfl rfl (yields_cell (by rfl) 3 _ rfl ba 1 rfl (.int .i64 a.n) _ (fun W h => h) Tryz.underlying3 rfl) (Still.all hH) ?_
    simp only [Act.put, jq1, jq2, jq3, jq4, jq5, jq6]
    refine jp 4 ((.pointer (some ⟨p2, 0, none⟩))) (Still.all hH) ?_
    simp only [Act.put, jq1, jq2, jq3, jq4, jq5, jq6]
    refine jp 5 ((.pointer (some ⟨ba, 1, none⟩))) (Still.all hH) ?_
    simp only [Act.put, jq1, jq2, jq3, jq4, jq5, jq6]
    refine jr 1 6 ((.int .i64 a.n)) rfl rfl (yields_cell (by rfl) 3 _ rfl ba 1 rfl (.int .i64 a.n) _ (fun W h => h) Tryz.underlying3 rfl) (Still.all hH) ?_
    simp only [Act.put, jq1, jq2, jq3, jq4, jq5, jq6]
    refine wpAnyJ_ready (rs := [3]) (by kernel_rfl) (by simp) ?_
    refine AllJ.keep rfl (by rfl) (by rfl) (fun K hK => ?_) (AllJ.nil)
    refine wp_call 46 _ _ (by rfl) (enters Tryz.func46 (by kernel_rfl) rfl) (by rfl) (CGo.out _ (O.tch.grown (fun _ h => h.elim))) ?_
    rintro e u3 ⟨rfl, H3⟩
    refine ⟨_, rfl, ?_⟩
    have HQ := Lib.hid H3
    clear H3 O
    simp only [Act.put, jq1, jq2, jq3, jq4, jq5, jq6]
    have hH2 : RdA [(2, ba, 1, [.int .i64 a.n]), (6, ba, 1, [.int .i64 a.n])] _ := (RdA.cons (RowAt.one ((HQ.out.own (ba, a.cells, 78) (by simp)).row 1 _ rfl)) (RdA.cons (RowAt.one ((HQ.out.own (ba, a.cells, 78) (by simp)).row 1 _ rfl)) RdA.nil))
    refine hK.out _ _ hH2 ?_
    replace hH := hH2
    clear hK K hH2
    refine wpAnyJ_ready (rs := [7]) (by kernel_rfl) (by simp) ?_
    refine AllJ.keep rfl (by rfl) (by rfl) (fun K hK => ?_) (AllJ.nil)
    refine wp_call 47 _ _ (by rfl) (enters Tryz.func47 (by kernel_rfl) rfl) (by rfl) (CGR.out _ _ HQ.out) ?_
    rintro e u4 ⟨rfl, H4⟩
    refine ⟨_, rfl, ?_⟩
    have HQ2 := Lib.hid H4
    clear H4
    simp only [Act.put, jq1, jq2, jq3, jq4, jq5, jq6]
    have hH2 : RdA [(2, ba, 1, [.int .i64 a.n]), (6, ba, 1, [.int .i64 a.n])] _ := (RdA.cons (RowAt.one ((HQ2.out.own (ba, a.cells, 78) (by simp)).row 1 _ rfl)) (RdA.cons (RowAt.one ((HQ2.out.own (ba, a.cells, 78) (by simp)).row 1 _ rfl)) RdA.nil))
    refine hK.out _ _ hH2 ?_
    replace hH := hH2
    clear hK K hH2
    refine jp 8 ((.bool false)) (Still.all hH) ?_
    simp only [Act.put, jq1, jq2, jq3, jq4, jq5, jq6]
    refine wpAnyJ_done (by kernel_rfl) ?_ _
    clear hH
    go_wp2_with fail
    go_meet
    case rel => exact ⟨_, HQ2.out, by have := HG.out; have := HT.out; omega⟩
   have d4 : (a.kind == 4) = false := by simpa using c4
   by_cases c2 : a.kind = 2
   ·have d2 : (a.kind == 2) = true := by simpa using c2
    clear c1 c2 c4
    go_upto_region 20 with (fail)
    have BA := Lib.hid (H.out.own (ba, a.cells, 78) (by simp)).row
    have O := OwF.start (fun _ => False) w
    replace O := O.drew
    obtain ⟨I2, sv2, pv2, r2⟩ := H.out.repB
    have F5 := Lib.hid (r2.blk.cellr (bc_get _ _ _).2.2.1)
    have CGw := Lib.hid (fun u (gg : w.grownBy u none) => CGa.out c0.want u (H.out.g.trans gg))
    clear r2
    go_cut [14, 15] from 76 to 176 (fun s14 s15 w' => ∃ bx y b, s14 = .pointer (some ⟨bx, 0, none⟩) ∧ s15 = .bool b ∧ y.wf ∧ (b = true → y ∈ xs ∧ (a.kind ≠ 2 → y.header.height = c0.want)) ∧ Pair16 w0 w' [(ba, a.cells, 78), (bq, o.cells, 35), (bx, y.cells, 31)] [] p p2 c0 c0)
    case first =>
     refine wp_region_J (rdf [(0, ba, 0, a.cells), (5, p2, 5, [(.int .i64 c0.want)])]) [6, 10, 11] (by kernel_rfl) (RdA.cons (BA.out.grown (O.tch.grown (fun _ h => h.elim)) (by simp)) (RdA.cons (F5.out.grown (O.tch.grown (fun _ h => h.elim)) (by simp)) RdA.nil)) (fun hH => ?_)
     refine jr 0 0 ((.agg (a.cells).toArray)) rfl rfl (yieldsIf_load_mid (by rfl) 78 _ rfl ba 0 rfl a.cells _ (fun W h => h) Tryz.underlying78 rfl (sizeAct a)) (Still.all hH) ?_
     simp only [Act.put, jq1, jq3, jq4, jq5, jq6]
     refine jp 1 ((.slice (some ⟨g, of, none⟩) N cp)) (Still.all hH) ?_
     simp only [Act.put, jq1, jq2, jq3, jq4, jq5, jq6]
     refine jp 2 ((.pointer (some ⟨p2, 0, none⟩))) (Still.all hH) ?_
     simp only [Act.put, jq1, jq2, jq3, jq4, jq5, jq6]
     refine jp 3 ((.pointer (some ⟨p2, 0, none⟩))) (Still.all hH) ?_
     simp only [Act.put, jq1, jq2, jq3, jq4, jq5, jq6]
     refine jp 4 ((.pointer (some ⟨p2, 5, none⟩))) (Still.all hH) ?_
     simp only [Act.put, jq1, jq2, jq3, jq4, jq5, jq6]
     refine jr 1 5 ((.int .i64 c0.want)) rfl rfl (yields_cell (by rfl) 3 _ rfl p2 5 rfl (.int .i64 c0.want) _ (fun W h => h) Tryz.underlying3 rfl) (Still.all hH) ?_
     simp only [Act.put, jq1, jq2, jq3, jq4, jq5, jq6]
     refine wpAnyJ_ready (rs := [6, 10]) (by kernel_rfl) (by simp) ?_
     refine AllJ.keep rfl (by rfl) (by rfl) (fun K hK => ?_) (AllJ.keep rfl (by rfl) (by rfl) (fun K hK => ?_) (AllJ.nil))
     ·refine wp_call 38 _ _ (by rfl) (enters Tryz.func38 (by kernel_rfl) rfl) (by rfl) (CGw.out _ (O.tch.grown (fun _ h => h.elim))) ?_
      rintro e u ⟨g1, y, b, hyw, rfl, hyb⟩
      refine ⟨_, rfl, ?_⟩
      have YW := Lib.hid hyw; have HYB := Lib.hid hyb
      clear hyw hyb
      replace O := O.call g1
      simp only [Act.put, jq1, jq2, jq3, jq4, jq5, jq6]
      refine hK.out _ _ (RdA.grown hH g1) ?_
      replace hH := RdA.grown hH g1
      clear hK K
      clear g1
      refine jp 7 ((.tuple #[.agg y.cells.toArray, .bool b])) (Still.all hH) ?_
      simp only [Act.put, jq1, jq2, jq3, jq4, jq5, jq6]
      refine jp 8 ((.agg y.cells.toArray)) (Still.all hH) ?_
      simp only [Act.put, jq1, jq2, jq3, jq4, jq5, jq6]
      refine jp 9 ((.bool b)) (Still.all hH) ?_
      simp only [Act.put, jq1, jq2, jq3, jq4, jq5, jq6]
      refine wpAnyJ_ready (rs := [10]) (by kernel_rfl) (by simp) ?_
      refine AllJ.keep rfl (by rfl) (by rfl) (fun K hK => ?_) (AllJ.nil)
      refine wp_of_alloc 31 rfl ZLt0 ZLt0_info O ?_
      clear O
      intro bx u g1 O
      simp only [Act.put, jq1, jq2, jq3, jq4, jq5, jq6]
      refine hK.out _ _ (RdA.grown hH g1) ?_
      replace hH := RdA.grown hH g1
      clear hK K
      clear g1
      refine wpAnyJ_ready (rs := [11]) (by kernel_rfl) (by simp) ?_
      refine AllJ.turn rfl (by rfl) (by rfl) (fun K hK => ?_) (AllJ.nil)
      refine wp_of_store 31 _ _ rfl O 0 bx rfl y.cells ZLt0 _ rfl rfl (LtR.cells_length _ YW.out) (LtR_one _) (sizeLt _ YW.out) ?_
      clear O
      intro wy O
      simp only [List.set_cons_zero] at O
      simp only [Act.put, jq1, jq2, jq3]
      refine hK.out _ _ (waits_all (by kernel_rfl)) ?_
      clear hK K hH
      refine jp 12 ((.bool b)) (Still.none (by kernel_rfl)) ?_
      simp only [Act.put, jq1, jq2, jq3, jq4, jq5, jq6]
      refine wpAnyJ_done (by kernel_rfl) ?_ _
      go_wp2
      go_meet
      case rel => exact ⟨bx, y, b, rfl, rfl, YW.out, HYB.out, H.out.joins O⟩
     ·refine wp_of_alloc 31 rfl ZLt0 ZLt0_info O ?_
      clear O
      intro bx u g1 O
      simp only [Act.put, jq1, jq2, jq3, jq4, jq5, jq6]
      refine hK.out _ _ (RdA.grown hH g1) ?_
      replace hH := RdA.grown hH g1
      clear hK K
      clear g1
      refine wpAnyJ_ready (rs := [6]) (by kernel_rfl) (by simp) ?_
      refine AllJ.keep rfl (by rfl) (by rfl) (fun K hK => ?_) (AllJ.nil)
      refine wp_call 38 _ _ (by rfl) (enters Tryz.func38 (by kernel_rfl) rfl) (by rfl) (CGw.out _ (O.tch.grown (fun _ h => h.elim))) ?_
      rintro e u ⟨g1, y, b, hyw, rfl, hyb⟩
      refine ⟨_, rfl, ?_⟩
      have YW := Lib.hid hyw; have HYB := Lib.hid hyb
      clear hyw hyb
      replace O := O.call g1
      simp only [Act.put, jq1, jq2, jq3, jq4, jq5, jq6]
      refine hK.out _ _ (RdA.grown hH g1) ?_
      replace hH := RdA.grown hH g1
      clear hK K
      clear g1
      refine jp 7 ((.tuple #[.agg y.cells.toArray, .bool b])) (Still.all hH) ?_
      simp only [Act.put, jq1, jq2, jq3, jq4, jq5, jq6]
      refine jp 8 ((.agg y.cells.toArray)) (Still.all hH) ?_
      simp only [Act.put, jq1, jq2, jq3, jq4, jq5, jq6]
      refine jp 9 ((.bool b)) (Still.all hH) ?_
      simp only [Act.put, jq1, jq2, jq3, jq4, jq5, jq6]
      refine wpAnyJ_ready (rs := [11]) (by kernel_rfl) (by simp) ?_
      refine AllJ.turn rfl (by rfl) (by rfl) (fun K hK => ?_) (AllJ.nil)
      refine wp_of_store 31 _ _ rfl O 0 bx rfl y.cells ZLt0 _ rfl rfl (LtR.cells_length _ YW.out) (LtR_one _) (sizeLt _ YW.out) ?_
      clear O
      intro wy O
      simp only [List.set_cons_zero] at O
      simp only [Act.put, jq1, jq2, jq3]
      refine hK.out _ _ (waits_all (by kernel_rfl)) ?_
      clear hK K hH
      refine jp 12 ((.bool b)) (Still.none (by kernel_rfl)) ?_
      simp only [Act.put, jq1, jq2, jq3]
      refine wpAnyJ_done (by kernel_rfl) ?_ _
      go_wp2
      go_meet
      case rel => exact ⟨bx, y, b, rfl, rfl, YW.out, HYB.out, H.out.joins O⟩
    clear O H CGw F5 BA
    obtain ⟨bx, y, b, rfl, rfl, hyw, hyb, H⟩ := hcut
    have YW := Lib.hid hyw; have HYB := Lib.hid hyb
    replace H := Lib.hid H
    clear hyw hyb
    cases b with
    | false =>
     go_upto_region 21 with (fail)
     go_quiet (fail)
     replace H := Lib.hid (H.out.grown (gb_drewN _ nq))
     go_wp2_with fail
     go_meet
     case rel => exact ⟨c0, H.out.only (by simp), Nat.le_succ_of_le HT.out⟩
    | true =>
    obtain ⟨l, hof, hfit⟩ := HFIT.out y (HYB.out (by trivial)).1
    have HG := Lib.hid (give_total c0 l a.now)
    have CGo := Lib.hid (fun u (gg : wc.grownBy u none) => pGive (H.out.grown gg) y l hof hfit a.now HAW.out.now HR.out (by have := HT.out; omega))
    have CGR := Lib.hid (fun (w1 : World) (c9 : BcD) (h : Pair16 w0 w1 [(ba, a.cells, 78), (bq, o.cells, 35), (bx, y.cells, 31)] [] p p2 c9 c0) => rGive h y l hof hfit a.now HAW.out.now (by have := HT.out; omega))
    obtain ⟨E, hE⟩ : ∃ z, (c0.give l a.now).2 = z := ⟨_, rfl⟩
    rw [hE] at CGo CGR
    clear hE hof hfit
    go_upto_region 21 with (fail)
    have O := OwF.start (fun _ => False) wc
    replace O := O.drew
    refine wp_region_J (rdf [(3, bx, 0, y.cells), (5, ba, 3, [(.float .f64 a.now)]), (8, bx, 0, y.cells), (10, ba, 3, [(.float .f64 a.now)])]) [6, 11] (by kernel_rfl) (RdA.cons (((H.out.own (bx, y.cells, 31) (by simp)).row).grown (O.tch.grown (fun _ h => h.elim)) (by simp)) (RdA.cons ((RowAt.one ((H.out.own (ba, a.cells, 78) (by simp)).row 3 _ rfl)).grown (O.tch.grown (fun _ h => h.elim)) (by simp)) (RdA.cons (((H.out.own (bx, y.cells, 31) (by simp)).row).grown (O.tch.grown (fun _ h => h.elim)) (by simp)) (RdA.cons ((RowAt.one ((H.out.own (ba, a.cells, 78) (by simp)).row 3 _ rfl)).grown (O.tch.grown (fun _ h => h.elim)) (by simp)) RdA.nil)))) (fun hH => ?_)
    refine jp 0 ((.bool true)) (Still.all hH) ?_
    simp only [Act.put, jq1, jq3, jq4, jq5, jq6]
    refine jp 1 ((.bool true)) (Still.all hH) ?_
    simp only [Act.put, jq1, jq2, jq3, jq4, jq5, jq6]
    refine jp 2 ((.pointer (some ⟨p, 0, none⟩))) (Still.all hH) ?_
    simp only [Act.put, jq1, jq4]
    refine jr 0 3 ((.agg (y.cells).toArray)) rfl rfl (yieldsIf_load_mid (by rfl) 31 _ rfl bx 0 rfl y.cells _ (fun W h => h) Tryz.underlying31 rfl (sizeLt _ YW.out)) (Still.all hH) ?_
    simp only [Act.put, jq1, jq2, jq3, jq4, jq5, jq6]
    refine jp 4 ((.pointer (some ⟨ba, 3, none⟩))) (Still.all hH) ?_
    simp only [Act.put, jq1, jq2, jq3, jq4, jq5, jq6]
    refine jr 1 5 ((.float .f64 a.now)) rfl rfl (yields_cell (by rfl) 33 _ rfl ba 3 rfl (.float .f64 a.now) _ (fun W h => h) Tryz.underlying33 rfl) (Still.all hH) ?_
    simp only [Act.put, jq1, jq2, jq3, jq4, jq5, jq6]
    refine jp 7 ((.pointer (some ⟨p2, 0, none⟩))) (Still.all hH) ?_
    simp only [Act.put, jq1, jq2, jq3, jq4, jq5, jq6]
    refine jr 2 8 ((.agg (y.cells).toArray)) rfl rfl (yieldsIf_load_mid (by rfl) 31 _ rfl bx 0 rfl y.cells _ (fun W h => h) Tryz.underlying31 rfl (sizeLt _ YW.out)) (Still.all hH) ?_
    simp only [Act.put, jq1, jq2, jq3, jq4, jq5, jq6]
    refine jp 9 ((.pointer (some ⟨ba, 3, none⟩))) (Still.all hH) ?_
    simp only [Act.put, jq1, jq2, jq3, jq4, jq5, jq6]
    refine jr 3 10 ((.float .f64 a.now)) rfl rfl (yields_cell (by rfl) 33 _ rfl ba 3 rfl (.float .f64 a.now) _ (fun W h => h) Tryz.underlying33 rfl) (Still.all hH) ?_
    simp only [Act.put, jq1, jq2, jq3, jq4, jq5, jq6]
    refine wpAnyJ_ready (rs := [6]) (by kernel_rfl) (by simp) ?_
    refine AllJ.keep rfl (by rfl) (by rfl) (fun K hK => ?_) (AllJ.nil)
    refine wp_call 40 _ _ (by rfl) (enters Tryz.func40 (by kernel_rfl) rfl) (by rfl) (CGo.out _ (O.tch.grown (fun _ h => h.elim))) ?_
    rintro e u3 ⟨rfl, H3⟩
    refine ⟨_, rfl, ?_⟩
    have HQ := Lib.hid H3
    clear H3 O
    simp only [Act.put, jq1, jq2, jq3, jq4, jq5, jq6]
    have hH2 : RdA [(3, bx, 0, y.cells), (5, ba, 3, [.float .f64 a.now]), (8, bx, 0, y.cells), (10, ba, 3, [.float .f64 a.now])] _ := (RdA.cons ((HQ.out.own (bx, y.cells, 31) (by simp)).row) (RdA.cons (RowAt.one ((HQ.out.own (ba, a.cells, 78) (by simp)).row 3 _ rfl)) (RdA.cons ((HQ.out.own (bx, y.cells, 31) (by simp)).row) (RdA.cons (RowAt.one ((HQ.out.own (ba, a.cells, 78) (by simp)).row 3 _ rfl)) RdA.nil))))
    refine hK.out _ _ hH2 ?_
    replace hH := hH2
    clear hK K hH2
    refine wpAnyJ_ready (rs := [11]) (by kernel_rfl) (by simp) ?_
    refine AllJ.keep rfl (by rfl) (by rfl) (fun K hK => ?_) (AllJ.nil)
    refine wp_call 45 _ _ (by rfl) (enters Tryz.func45 (by kernel_rfl) rfl) (by rfl) (CGR.out _ _ HQ.out) ?_
    rintro e u4 ⟨rfl, H4⟩
    refine ⟨_, rfl, ?_⟩
    have HQ2 := Lib.hid H4
    clear H4
    simp only [Act.put, jq1, jq2, jq3, jq4, jq5, jq6]
    have hH2 : RdA [(3, bx, 0, y.cells), (5, ba, 3, [.float .f64 a.now]), (8, bx, 0, y.cells), (10, ba, 3, [.float .f64 a.now])] _ := (RdA.cons ((HQ2.out.own (bx, y.cells, 31) (by simp)).row) (RdA.cons (RowAt.one ((HQ2.out.own (ba, a.cells, 78) (by simp)).row 3 _ rfl)) (RdA.cons ((HQ2.out.own (bx, y.cells, 31) (by simp)).row) (RdA.cons (RowAt.one ((HQ2.out.own (ba, a.cells, 78) (by simp)).row 3 _ rfl)) RdA.nil))))
    refine hK.out _ _ hH2 ?_
    replace hH := hH2
    clear hK K hH2
    refine jp 12 ((.bool false)) (Still.all hH) ?_
    simp only [Act.put, jq1, jq2, jq3, jq4, jq5, jq6]
    refine jp 13 ((.bool false)) (Still.all hH) ?_
    simp only [Act.put, jq1, jq2, jq3, jq4, jq5, jq6]
    refine wpAnyJ_done (by kernel_rfl) ?_ _
    clear hH
    go_wp2_with fail
    go_meet
    case rel => exact ⟨_, HQ2.out.only (by simp), by have := HG.out; have := HT.out; omega⟩
   have d2 : (a.kind == 2) = false := by simpa using c2
   by_cases c3 : a.kind = 3
   ·have d3 : (a.kind == 3) = true := by simpa using c3
    clear c1 c2 c3 c4
    go_upto_region 20 with (fail)
    have BA := Lib.hid (H.out.own (ba, a.cells, 78) (by simp)).row
    have O := OwF.start (fun _ => False) w
    replace O := O.drew
    obtain ⟨I2, sv2, pv2, r2⟩ := H.out.repB
    have F5 := Lib.hid (r2.blk.cellr (bc_get _ _ _).2.2.1)
    have CGw := Lib.hid (fun u (gg : w.grownBy u none) => CGa.out c0.want u (H.out.g.trans gg))
    clear r2
    go_cut [14, 15] from 76 to 176 (fun s14 s15 w' => ∃ bx y b, s14 = .pointer (some ⟨bx, 0, none⟩) ∧ s15 = .bool b ∧ y.wf ∧ (b = true → y ∈ xs ∧ (a.kind ≠ 2 → y.header.height = c0.want)) ∧ Pair16 w0 w' [(ba, a.cells, 78), (bq, o.cells, 35), (bx, y.cells, 31)] [] p p2 c0 c0)
    case first =>
     refine wp_region_J (rdf [(0, ba, 0, a.cells), (5, p2, 5, [(.int .i64 c0.want)])]) [6, 10, 11] (by kernel_rfl) (RdA.cons (BA.out.grown (O.tch.grown (fun _ h => h.elim)) (by simp)) (RdA.cons (F5.out.grown (O.tch.grown (fun _ h => h.elim)) (by simp)) RdA.nil)) (fun hH => ?_)
     refine jr 0 0 ((.agg (a.cells).toArray)) rfl rfl (yieldsIf_load_mid (by rfl) 78 _ rfl ba 0 rfl a.cells _ (fun W h => h) Tryz.underlying78 rfl (sizeAct a)) (Still.all hH) ?_
     simp only [Act.put, jq1, jq3, jq4, jq5, jq6]
     refine jp 1 ((.slice (some ⟨g, of, none⟩) N cp)) (Still.all hH) ?_
     simp only [Act.put, jq1, jq4]
     refine jp 2 ((.pointer (some ⟨p2, 0, none⟩))) (Still.all hH) ?_
     simp only [Act.put, jq1, jq2, jq3, jq4, jq5, jq6]
     refine jp 3 ((.pointer (some ⟨p2, 0, none⟩))) (Still.all hH) ?_
     simp only [Act.put, jq1, jq2, jq3, jq4, jq5, jq6]
     refine jp 4 ((.pointer (some ⟨p2, 5, none⟩))) (Still.all hH) ?_
     simp only [Act.put, jq1, jq2, jq3, jq4, jq5, jq6]
     refine jr 1 5 ((.int .i64 c0.want)) rfl rfl (yields_cell (by rfl) 3 _ rfl p2 5 rfl (.int .i64 c0.want) _ (fun W h => h) Tryz.underlying3 rfl) (Still.all hH) ?_
     simp only [Act.put, jq1, jq2, jq3, jq4, jq5, jq6]
     refine wpAnyJ_ready (rs := [6, 10]) (by kernel_rfl) (by simp) ?_
     refine AllJ.keep rfl (by rfl) (by rfl) (fun K hK => ?_) (AllJ.keep rfl (by rfl) (by rfl) (fun K hK => ?_) (AllJ.nil))
     ·refine wp_call 38 _ _ (by rfl) (enters Tryz.func38 (by kernel_rfl) rfl) (by rfl) (CGw.out _ (O.tch.grown (fun _ h => h.elim))) ?_
      rintro e u ⟨g1, y, b, hyw, rfl, hyb⟩
      refine ⟨_, rfl, ?_⟩
      have YW := Lib.hid hyw; have HYB := Lib.hid hyb
      clear hyw hyb
      replace O := O.call g1
      simp only [Act.put, jq1, jq2, jq3, jq4, jq5, jq6]
      refine hK.out _ _ (RdA.grown hH g1) ?_
      replace hH := RdA.grown hH g1
      clear hK K
      clear g1
      refine jp 7 ((.tuple #[.agg y.cells.toArray, .bool b])) (Still.all hH) ?_
      simp only [Act.put, jq1, jq2, jq3, jq4, jq5, jq6]
      refine jp 8 ((.agg y.cells.toArray)) (Still.all hH) ?_
      simp only [Act.put, jq1, jq2, jq3, jq4, jq5, jq6]
      refine jp 9 ((.bool b)) (Still.all hH) ?_
      simp only [Act.put, jq1, jq2, jq3, jq4, jq5, jq6]
      refine wpAnyJ_ready (rs := [10]) (by kernel_rfl) (by simp) ?_
      refine AllJ.keep rfl (by rfl) (by rfl) (fun K hK => ?_) (AllJ.nil)
      refine wp_of_alloc 31 rfl ZLt0 ZLt0_info O ?_
      clear O
      intro bx u g1 O
      simp only [Act.put, jq1, jq2, jq3, jq4, jq5, jq6]
      refine hK.out _ _ (RdA.grown hH g1) ?_
      replace hH := RdA.grown hH g1
      clear hK K
      clear g1
      refine wpAnyJ_ready (rs := [11]) (by kernel_rfl) (by simp) ?_
      refine AllJ.turn rfl (by rfl) (by rfl) (fun K hK => ?_) (AllJ.nil)
      refine wp_of_store 31 _ _ rfl O 0 bx rfl y.cells ZLt0 _ rfl rfl (LtR.cells_length _ YW.out) (LtR_one _) (sizeLt _ YW.out) ?_
      clear O
      intro wy O
      simp only [List.set_cons_zero] at O
      simp only [Act.put, jq1, jq2, jq3]
      refine hK.out _ _ (waits_all (by kernel_rfl)) ?_
      clear hK K hH
      refine jp 12 ((.bool b)) (Still.none (by kernel_rfl)) ?_
      simp only [Act.put, jq1, jq2, jq3, jq4, jq5, jq6]
      refine wpAnyJ_done (by kernel_rfl) ?_ _
      go_wp2
      go_meet
      case rel => exact ⟨bx, y, b, rfl, rfl, YW.out, HYB.out, H.out.joins O⟩
     ·refine wp_of_alloc 31 rfl ZLt0 ZLt0_info O ?_
      clear O
      intro bx u g1 O
      simp only [Act.put, jq1, jq2, jq3]
      refine hK.out _ _ (RdA.grown hH g1) ?_
      replace hH := RdA.grown hH g1
      clear hK K
      clear g1
      refine wpAnyJ_ready (rs := [6]) (by kernel_rfl) (by simp) ?_
      refine AllJ.keep rfl (by rfl) (by rfl) (fun K hK => ?_) (AllJ.nil)
      refine wp_call 38 _ _ (by rfl) (enters Tryz.func38 (by kernel_rfl) rfl) (by rfl) (CGw.out _ (O.tch.grown (fun _ h => h.elim))) ?_
      rintro e u ⟨g1, y, b, hyw, rfl, hyb⟩
      refine ⟨_, rfl, ?_⟩
      have YW := Lib.hid hyw; have HYB := Lib.hid hyb
      clear hyw hyb
      replace O := O.call g1
      simp only [Act.put, jq1, jq2, jq3, jq4, jq5, jq6]
      refine hK.out _ _ (RdA.grown hH g1) ?_
      replace hH := RdA.grown hH g1
      clear hK K
      clear g1
      refine jp 7 ((.tuple #[.agg y.cells.toArray, .bool b])) (Still.all hH) ?_
      simp only [Act.put, jq1, jq2, jq3, jq4, jq5, jq6]
      refine jp 8 ((.agg y.cells.toArray)) (Still.all hH) ?_
      simp only [Act.put, jq1, jq2, jq3, jq4, jq5, jq6]
      refine jp 9 ((.bool b)) (Still.all hH) ?_
      simp only [Act.put, jq1, jq2, jq3, jq4, jq5, jq6]
      refine wpAnyJ_ready (rs := [11]) (by kernel_rfl) (by simp) ?_
      refine AllJ.turn rfl (by rfl) (by rfl) (fun K hK => ?_) (AllJ.nil)
      refine wp_of_store 31 _ _ rfl O 0 bx rfl y.cells ZLt0 _ rfl rfl (LtR.cells_length _ YW.out) (LtR_one _) (sizeLt _ YW.out) ?_
      clear O
      intro wy O
      simp only [List.set_cons_zero] at O
      simp only [Act.put, jq1, jq2, jq3]
      refine hK.out _ _ (waits_all (by kernel_rfl)) ?_
      clear hK K hH
      refine jp 12 ((.bool b)) (Still.none (by kernel_rfl)) ?_
      simp only [Act.put, jq1, jq2, jq3, jq4, jq5, jq6]
      refine wpAnyJ_done (by kernel_rfl) ?_ _
      go_wp2
      go_meet
      case rel => exact ⟨bx, y, b, rfl, rfl, YW.out, HYB.out, H.out.joins O⟩
    clear O H CGw F5 BA
    obtain ⟨bx, y, b, rfl, rfl, hyw, hyb, H⟩ := hcut
    have YW := Lib.hid hyw; have HYB := Lib.hid hyb
    replace H := Lib.hid H
    clear hyw hyb
    cases b with
    | false =>
     go_upto_region 21 with (fail)
     go_quiet (fail)
     replace H := Lib.hid (H.out.grown (gb_drewN _ nq))
     go_wp2_with fail
     go_meet
     case rel => exact ⟨c0, H.out.only (by simp), Nat.le_succ_of_le HT.out⟩
    | true =>
    obtain ⟨l, hof, hfit⟩ := HFIT.out y (HYB.out (by trivial)).1
    have HG := Lib.hid (give_total c0 l a.now)
    have CGo := Lib.hid (fun u (gg : wc.grownBy u none) => pGive (H.out.grown gg) y l hof hfit a.now HAW.out.now HR.out (by have := HT.out; omega))
    have CGR := Lib.hid (fun (w1 : World) (c9 : BcD) (h : Pair16 w0 w1 [(ba, a.cells, 78), (bq, o.cells, 35), (bx, y.cells, 31)] [] p p2 c9 c0) => rGive h y l hof hfit a.now HAW.out.now (by have := HT.out; omega))
    obtain ⟨E, hE⟩ : ∃ z, (c0.give l a.now).2 = z := ⟨_, rfl⟩
    rw [hE] at CGo CGR
    clear hE hof hfit
    go_upto_region 21 with (fail)
    have O := OwF.start (fun _ => False) wc
    replace O := O.drew
    refine wp_region_J (rdf [(3, bx, 0, y.cells), (5, ba, 3, [(.float .f64 a.now)]), (8, bx, 0, y.cells), (10, ba, 3, [(.float .f64 a.now)])]) [6, 11] (by kernel_rfl) (RdA.cons (((H.out.own (bx, y.cells, 31) (by simp)).row).grown (O.tch.grown (fun _ h => h.elim)) (by simp)) (RdA.cons ((RowAt.one ((H.out.own (ba, a.cells, 78) (by simp)).row 3 _ rfl)).grown (O.tch.grown (fun _ h => h.elim)) (by simp)) (RdA.cons (((H.out.own (bx, y.cells, 31) (by simp)).row).grown (O.tch.grown (fun _ h => h.elim)) (by simp)) (RdA.cons ((RowAt.one ((H.out.own (ba, a.cells, 78) (by simp)).row 3 _ rfl)).grown (O.tch.grown (fun _ h => h.elim)) (by simp)) RdA.nil)))) (fun hH => ?_)
    refine jp 0 ((.bool true)) (Still.all hH) ?_
    simp only [Act.put, jq1, jq3, jq4, jq5, jq6]
    refine jp 1 ((.bool true)) (Still.all hH) ?_
    simp only [Act.put, jq1, jq2, jq3, jq4, jq5, jq6]
    refine jp 2 ((.pointer (some ⟨p, 0, none⟩))) (Still.all hH) ?_
    simp only [Act.put, jq1, jq2, jq3, jq4, jq5, jq6]
    refine jr 0 3 ((.agg (y.cells).toArray)) rfl rfl (yieldsIf_load_mid (by rfl) 31 _ rfl bx 0 rfl y.cells _ (fun W h => h) Tryz.underlying31 rfl (sizeLt _ YW.out)) (Still.all hH) ?_
    simp only [Act.put, jq1, jq4]
    refine jp 4 ((.pointer (some ⟨ba, 3, none⟩))) (Still.all hH) ?_
    simp only [Act.put, jq1, jq2, jq3, jq4, jq5, jq6]
    refine jr 1 5 ((.float .f64 a.now)) rfl rfl (yields_cell (by rfl) 33 _ rfl ba 3 rfl (.float .f64 a.now) _ (fun W h => h) Tryz.underlying33 rfl) (Still.all hH) ?_
    simp only [Act.put, jq1, jq2, jq3, jq4, jq5, jq6]
    refine jp 7 ((.pointer (some ⟨p2, 0, none⟩))) (Still.all hH) ?_
    simp only [Act.put, jq1, jq2, jq3, jq4, jq5, jq6]
    refine jr 2 8 ((.agg (y.cells).toArray)) rfl rfl (yieldsIf_load_mid (by rfl) 31 _ rfl bx 0 rfl y.cells _ (fun W h => h) Tryz.underlying31 rfl (sizeLt _ YW.out)) (Still.all hH) ?_
    simp only [Act.put, jq1, jq2, jq3, jq4, jq5, jq6]
    refine jp 9 ((.pointer (some ⟨ba, 3, none⟩))) (Still.all hH) ?_
    simp only [Act.put, jq1, jq2, jq3, jq4, jq5, jq6]
    refine jr 3 10 ((.float .f64 a.now)) rfl rfl (yields_cell (by rfl) 33 _ rfl ba 3 rfl (.float .f64 a.now) _ (fun W h => h) Tryz.underlying33 rfl) (Still.all hH) ?_
    simp only [Act.put, jq1, jq2, jq3, jq4, jq5, jq6]
    refine wpAnyJ_ready (rs := [6]) (by kernel_rfl) (by simp) ?_
    refine AllJ.keep rfl (by rfl) (by rfl) (fun K hK => ?_) (AllJ.nil)
    refine wp_call 40 _ _ (by rfl) (enters Tryz.func40 (by kernel_rfl) rfl) (by rfl) (CGo.out _ (O.tch.grown (fun _ h => h.elim))) ?_
    rintro e u3 ⟨rfl, H3⟩
    refine ⟨_, rfl, ?_⟩
    have HQ := Lib.hid H3
    clear H3 O
    simp only [Act.put, jq1, jq2, jq3, jq4, jq5, jq6]
    have hH2 : RdA [(3, bx, 0, y.cells), (5, ba, 3, [.float .f64 a.now]), (8, bx, 0, y.cells), (10, ba, 3, [.float .f64 a.now])] _ := (RdA.cons ((HQ.out.own (bx, y.cells, 31) (by simp)).row) (RdA.cons (RowAt.one ((HQ.out.own (ba, a.cells, 78) (by simp)).row 3 _ rfl)) (RdA.cons ((HQ.out.own (bx, y.cells, 31) (by simp)).row) (RdA.cons (RowAt.one ((HQ.out.own (ba, a.cells, 78) (by simp)).row 3 _ rfl)) RdA.nil))))
    refine hK.out _ _ hH2 ?_
    replace hH := hH2
    clear hK K hH2
    refine wpAnyJ_ready (rs := [11]) (by kernel_rfl) (by simp) ?_
    refine AllJ.keep rfl (by rfl) (by rfl) (fun K hK => ?_) (AllJ.nil)
    refine wp_call 45 _ _ (by rfl) (enters Tryz.func45 (by kernel_rfl) rfl) (by rfl) (CGR.out _ _ HQ.out) ?_
    rintro e u4 ⟨rfl, H4⟩
    refine ⟨_, rfl, ?_⟩
    have HQ2 := Lib.hid H4
    clear H4
    simp only [Act.put, jq1, jq2, jq3, jq4, jq5, jq6]
    have hH2 : RdA [(3, bx, 0, y.cells), (5, ba, 3, [.float .f64 a.now]), (8, bx, 0, y.cells), (10, ba, 3, [.float .f64 a.now])] _ := (RdA.cons ((HQ2.out.own (bx, y.cells, 31) (by simp)).row) (RdA.cons (RowAt.one ((HQ2.out.own (ba, a.cells, 78) (by simp)).row 3 _ rfl)) (RdA.cons ((HQ2.out.own (bx, y.cells, 31) (by simp)).row) (RdA.cons (RowAt.one ((HQ2.out.own (ba, a.cells, 78) (by simp)).row 3 _ rfl)) RdA.nil))))
    refine hK.out _ _ hH2 ?_
    replace hH := hH2
    clear hK K hH2
    refine jp 12 ((.bool false)) (Still.all hH) ?_
    simp only [Act.put, jq1, jq2, jq3, jq4, jq5, jq6]
    refine jp 13 ((.bool false)) (Still.all hH) ?_
    simp only [Act.put, jq1, jq2, jq3, jq4, jq5, jq6]
    refine wpAnyJ_done (by kernel_rfl) ?_ _
    clear hH
    go_wp2_with fail
    go_meet
    case rel => exact ⟨_, HQ2.out.only (by simp), by have := HG.out; have := HT.out; omega⟩
   have d3 : (a.kind == 3) = false := by simpa using c3
   clear c1 c2 c3 c4
   go_wp2_with fail
   go_meet
   case rel => exact ⟨c0, H.out, Nat.le_succ_of_le HT.out⟩
  clear H HT
  obtain ⟨c1, H, HT⟩ := hcut
  replace H := Lib.hid H; replace HT := Lib.hid HT
  obtain ⟨I2, sv2, pv2, r2⟩ := H.out.repB
  obtain ⟨sa, sc, hsv, _, _⟩ := r2.store.shape
  have F3 := Lib.hid (r2.blk.cellr (bc_get _ _ _).1); have F5 := Lib.hid (r2.blk.cellr (bc_get _ _ _).2.2.1); have F6 := Lib.hid (r2.blk.cellr (bc_get _ _ _).2.2.2.1)
  rw [hsv] at F3
  have HR2 := Lib.hid (fun u (gg : wc.grownBy u none) => by have k := r2.store.grown gg; rw [hsv] at k; exact k)
  have CS := Lib.hid (fun u (gg : wc.grownBy u none) => pStore (H.out.grown gg))
  obtain ⟨sn, hsn⟩ : ∃ z, c1.store.length = z := ⟨_, rfl⟩
  rw [hsn] at F3 HR2
  clear hsv r2 hsn
  go_upto_region 26 with (fail)
  have O := OwF.start (fun _ => False) wc
  replace O := O.drew
  refine wp_region_J (rdf [(5, p2, 3, [(.slice sa sn sc)])]) [1, 6] (by kernel_rfl) (RdA.cons (F3.out.grown (O.tch.grown (fun _ h => h.elim)) (by simp)) RdA.nil) (fun hH => ?_)
  refine jp 0 ((.pointer (some ⟨p, 0, none⟩))) (Still.all hH) ?_
  simp only [Act.put, jq4]
  refine jp 2 ((.pointer (some ⟨p2, 0, none⟩))) (Still.all hH) ?_
  simp only [Act.put, jq1, jq2, jq3, jq4, jq5, jq6]
  refine jp 3 ((.pointer (some ⟨p2, 0, none⟩))) (Still.all hH) ?_
  simp only [Act.put, jq1, jq4]
  refine jp 4 ((.pointer (some ⟨p2, 3, none⟩))) (Still.all hH) ?_
  simp only [Act.put, jq1, jq2, jq3, jq4, jq5, jq6]
  refine jr 0 5 ((.slice sa sn sc)) rfl rfl (yields_cell (by rfl) 70 _ rfl p2 3 rfl (.slice sa sn sc) _ (fun W h => h) Tryz.underlying70 rfl) (Still.all hH) ?_
  simp only [Act.put, jq1, jq2, jq3, jq4, jq5, jq6]
  refine wpAnyJ_ready (rs := [1]) (by kernel_rfl) (by simp) ?_
  refine AllJ.keep rfl (by rfl) (by rfl) (fun K hK => ?_) (AllJ.nil)
  refine wp_call 36 _ _ (by rfl) (enters Tryz.func36 (by kernel_rfl) rfl) (by rfl) (CS.out _ (O.tch.grown (fun _ h => h.elim))) ?_
  rintro e u ⟨a3, n3, k3, rfl, g1, H3⟩
  refine ⟨_, rfl, ?_⟩
  have HQ := Lib.hid H3
  clear H3
  replace O := O.call g1
  simp only [Act.put, jq1, jq2, jq3, jq4, jq5, jq6]
  refine hK.out _ _ (RdA.grown hH g1) ?_
  replace hH := RdA.grown hH g1
  clear hK K
  clear g1
  refine wpAnyJ_ready (rs := [6]) (by kernel_rfl) (by simp) ?_
  refine AllJ.keep rfl (by rfl) (by rfl) (fun K hK => ?_) (AllJ.nil)
  obtain ⟨J3, r3⟩ := HQ.out.row 0 rfl
  have CE := Lib.hid (same_ok _ r3 (HR2.out _ (O.tch.grown (fun _ h => h.elim))))
  clear r3
  refine wp_call 41 _ _ (by rfl) (enters Tryz.func41 (by kernel_rfl) rfl) (by rfl) (CE.out) ?_
  rintro e u ⟨rfl, g1⟩
  refine ⟨_, rfl, ?_⟩
  replace O := O.call g1
  simp only [Act.put, jq1, jq2, jq3, jq4, jq5, jq6]
  refine hK.out _ _ (RdA.grown hH g1) ?_
  replace hH := RdA.grown hH g1
  clear hK K
  clear g1 CE HQ
  refine jp 7 ((.bool true)) (Still.all hH) ?_
  simp only [Act.put, jq1, jq2, jq3, jq4, jq5, jq6]
  refine wpAnyJ_done (by kernel_rfl) ?_ _
  clear hH
  replace H := Lib.hid (H.out.grown (O.tch.grown (fun _ h => h.elim)))
  clear CS HR2
  have CT := Lib.hid (pTrace H.out)
  go_wp2_with fail
  refine CT.out.mono ?_
  rintro e w5 ⟨a5, n5, k5, rfl, g5, H5⟩
  replace H := Lib.hid H5
  replace O := O.call g5
  clear H5 g5 CT
  have CT := Lib.hid (rTrace H.out)
  go_wp2_with fail
  refine CT.out.mono ?_
  rintro e w6 ⟨a6, n6, k6, rfl, g6, I6, r6⟩
  replace H := Lib.hid (H.out.grown g6)
  replace O := O.call g6
  obtain ⟨J5, r5⟩ := H.out.row 0 rfl
  have CE := Lib.hid (same_ok _ r5 r6)
  clear g6 r6 r5 CT
  go_wp2_with fail
  refine CE.out.mono ?_
  rintro e w7 ⟨rfl, g7⟩
  replace H := Lib.hid (H.out.grown g7).rows0
  replace O := O.call g7
  clear g7 CE
  have CW := Lib.hid (fun u (gg : w7.grownBy u none) => pWant (H.out.grown gg)); have CFe := Lib.hid (fun u (gg : w7.grownBy u none) => pFetches (H.out.grown gg))
  obtain ⟨W, hW⟩ : ∃ z, c1.want = z := ⟨_, rfl⟩
  obtain ⟨Fz, hFz⟩ : ∃ z, c1.fet = z := ⟨_, rfl⟩
  rw [hW] at CW F5; rw [hFz] at CFe F6
  replace F5 := Lib.hid (F5.out.grown (O.tch.grown (fun _ h => h.elim)) (by simp)); replace F6 := Lib.hid (F6.out.grown (O.tch.grown (fun _ h => h.elim)) (by simp))
  clear hW hFz O
  go_upto_region 28 with (fail)
  have O := OwF.start (fun _ => False) w7
  replace O := O.drew
  refine wp_region_J (rdf [(12, p2, 5, [(.int .i64 W)]), (21, p2, 6, [(.int .i64 Fz)])]) [8, 17] (by kernel_rfl) (RdA.cons (F5.out.grown (O.tch.grown (fun _ h => h.elim)) (by simp)) (RdA.cons (F6.out.grown (O.tch.grown (fun _ h => h.elim)) (by simp)) RdA.nil)) (fun hH => ?_)
  refine jp 0 ((.bool true)) (Still.all hH) ?_
  simp only [Act.put, jq1, jq3, jq4, jq5, jq6]
  refine jp 1 ((.bool false)) (Still.all hH) ?_
  simp only [Act.put, jq1, jq2, jq3, jq4, jq5, jq6]
  refine jp 2 ((.bool false)) (Still.all hH) ?_
  simp only [Act.put, jq1, jq2, jq3, jq4, jq5, jq6]
  refine jp 3 ((.bool true)) (Still.all hH) ?_
  simp only [Act.put, jq1, jq4]
  refine jp 4 ((.bool false)) (Still.all hH) ?_
  simp only [Act.put, jq1, jq2, jq3, jq4, jq5, jq6]
  refine jp 5 ((.bool false)) (Still.all hH) ?_
  simp only [Act.put, jq1, jq2, jq3, jq4, jq5, jq6]
  refine jp 6 ((.bool false)) (Still.all hH) ?_
  simp only [Act.put, jq1, jq2, jq3, jq4, jq5, jq6]
  refine jp 7 ((.pointer (some ⟨p, 0, none⟩))) (Still.all hH) ?_
  simp only [Act.put, jq1, jq2, jq3, jq4, jq5, jq6]
  refine jp 9 ((.pointer (some ⟨p2, 0, none⟩))) (Still.all hH) ?_
  simp only [Act.put, jq1, jq2, jq3, jq4, jq5, jq6]
  refine jp 10 ((.pointer (some ⟨p2, 0, none⟩))) (Still.all hH) ?_
  simp only [Act.put, jq1, jq2, jq3, jq4, jq5, jq6]
  refine jp 11 ((.pointer (some ⟨p2, 5, none⟩))) (Still.all hH) ?_
  simp only [Act.put, jq1, jq2, jq3, jq4, jq5, jq6]
  refine jr 0 12 ((.int .i64 W)) rfl rfl (yields_cell (by rfl) 3 _ rfl p2 5 rfl (.int .i64 W) _ (fun W h => h) Tryz.underlying3 rfl) (Still.all hH) ?_
  simp only [Act.put, jq1, jq2, jq3, jq4, jq5, jq6]
  refine wpAnyJ_ready (rs := [8]) (by kernel_rfl) (by simp) ?_
  refine AllJ.keep rfl (by rfl) (by rfl) (fun K hK => ?_) (AllJ.nil)
  refine wp_call 39 _ _ (by rfl) (enters Tryz.func39 (by kernel_rfl) rfl) (by rfl) (CW.out _ (O.tch.grown (fun _ h => h.elim))) ?_
  rintro e u ⟨rfl, g1⟩
  refine ⟨_, rfl, ?_⟩
  replace O := O.call g1
  simp only [Act.put, jq1, jq2, jq3, jq4, jq5, jq6]
  refine hK.out _ _ (RdA.grown hH g1) ?_
  replace hH := RdA.grown hH g1
  clear hK K
  clear g1
  refine jp 13 ((.bool false)) (Still.all hH) ?_
  simp only [Act.put, jq1, jq2, jq3, jq4, jq5, jq6]
  refine jp 14 ((.bool false)) (Still.all hH) ?_
  simp only [Act.put, jq1, jq2, jq3, jq4, jq5, jq6]
  refine jp 15 ((.bool false)) (Still.all hH) ?_
  simp only [Act.put, jq1, jq2, jq3, jq4, jq5, jq6]
  refine jp 16 ((.pointer (some ⟨p, 0, none⟩))) (Still.all hH) ?_
  simp only [Act.put, jq1, jq2, jq3, jq4, jq5, jq6]
  refine jp 18 ((.pointer (some ⟨p2, 0, none⟩))) (Still.all hH) ?_
  simp only [Act.put, jq1, jq2, jq3, jq4, jq5, jq6]
  refine jp 19 ((.pointer (some ⟨p2, 0, none⟩))) (Still.all hH) ?_
  simp only [Act.put, jq1, jq2, jq3, jq4, jq5, jq6]
  refine jp 20 ((.pointer (some ⟨p2, 6, none⟩))) (Still.all hH) ?_
  simp only [Act.put, jq1, jq2, jq3, jq4, jq5, jq6]
  refine jr 1 21 ((.int .i64 Fz)) rfl rfl (yields_cell (by rfl) 3 _ rfl p2 6 rfl (.int .i64 Fz) _ (fun W h => h) Tryz.underlying3 rfl) (Still.all hH) ?_
  simp only [Act.put, jq1, jq2, jq3, jq4, jq5, jq6]
  refine wpAnyJ_ready (rs := [17]) (by kernel_rfl) (by simp) ?_
  refine AllJ.keep rfl (by rfl) (by rfl) (fun K hK => ?_) (AllJ.nil)
  refine wp_call 42 _ _ (by rfl) (enters Tryz.func42 (by kernel_rfl) rfl) (by rfl) (CFe.out _ (O.tch.grown (fun _ h => h.elim))) ?_
  rintro e u ⟨rfl, g1⟩
  refine ⟨_, rfl, ?_⟩
  replace O := O.call g1
  simp only [Act.put, jq1, jq2, jq3, jq4, jq5, jq6]
  refine hK.out _ _ (RdA.grown hH g1) ?_
  replace hH := RdA.grown hH g1
  clear hK K
  clear g1
  refine jp 22 ((.bool false)) (Still.all hH) ?_
  simp only [Act.put, jq1, jq2, jq3, jq4, jq5, jq6]
  refine jp 23 ((.bool false)) (Still.all hH) ?_
  simp only [Act.put, jq1, jq2, jq3, jq4, jq5, jq6]
  refine wpAnyJ_done (by kernel_rfl) ?_ _
  clear hH
  replace H := Lib.hid (H.out.grown (O.tch.grown (fun _ h => h.elim)))
  clear O
  go_wp2_with fail
  exact ⟨⟨k + 1, c1, by omega, by omega, by omega, by go_num, H.out.only (by simp), HT.out⟩, by simp [intOf]; omega⟩
end Go.Proofs.YtdhchehagfmjcaaGreatDoor
