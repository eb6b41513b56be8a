/- Walks: nunciolaw16's few, given, same. A light client, as the laws keep it: beside blocks of their own and what it has shown. -/
import Derived.Test.YtdhchehagfmjcaaGreatDoorSame
import Derived.Test.YtdhchehagfmjcaaGreatDoorBs
import Derived.Test.YtdhchehagfmjcaaGreatDoorAl
namespace Go.Proofs.YtdhchehagfmjcaaGreatDoor
open Go.RowKit
set_option maxRecDepth 100000

theorem sameL_self {D : Type} (f : D → List Value) (h : ∀ d, VEq (f d) (f d) = true) (l : List D) : sameL f l l = true := by
  have : ∀ xs : List D, VEq (xs.flatMap f) (xs.flatMap f) = true := by
    intro xs; induction xs with
    | nil => rfl
    | cons x xs ih => rw [List.flatMap_cons, VEq.append rfl, ih, h]; rfl
  unfold sameL; rw [this]; simp
theorem sameLight_self (l : LightD) : sameLight l l = true := by
  have h1 : VEq l.header.cells l.header.cells = true := by
    unfold HeaderD.cells
    rw [VEq.append rfl, VEq.append rfl, VEq.append rfl, VEq.append rfl, VEq.append rfl]
    simp [VEq.bytes, VEq, KEq]
  have h2 := fun (d : ValD) => show VEq d.cells d.cells = true by simp [ValD.cells, VEq, KEq]
  have h3 := fun (d : SealD) => show VEq d.cells d.cells = true by simp [SealD.cells, VEq, KEq]
  unfold sameLight sameCommit
  rw [h1, sameL_self _ h2, sameL_self _ h2, sameL_self _ h3, VEq.bytes]; simp

/-- an act of a script -/
structure ActD where
  kind : Int
  n : Int
  i : Int
  now : Nat
def ActD.cells (a : ActD) : List Value := [.int .i64 a.kind, .int .i64 a.n, .int .i64 a.i, .float .f64 a.now]
structure ActD.wf (a : ActD) : Prop where
  kind : i64R a.kind
  n : i64R a.n
  i : i64R a.i
  now : a.now < 18446744073709551616
def actsCells (l : List ActD) : List Value := l.flatMap ActD.cells
theorem sizeAct (a : ActD) : (Tryz.prog.info? 78).map (·.size) = some a.cells.length := rfl
theorem ActD_one (a : ActD) : ∀ v ∈ a.cells, v.oneCell' = true := by simp [ActD.cells, Value.oneCell']
def ZAct : List Value := [.int .i64 0, .int .i64 0, .int .i64 0, .float .f64 0]
theorem ZAct_info : (Tryz.prog.info? 78).map (fun i => i.zero.map (fun v => v.cells)) = some (some ZAct.toArray) := by kernel_rfl
/-- one of light blocks that came in -/
theorem lts_at {B : Nat} {w : World} {v : Value} {xs : List LtR} (h : RdS B w v xs.length 200 (ltsCells xs)) (hw : ∀ x ∈ xs, x.wf) (k : Nat) (hk : k < xs.length) : ∃ g o c, v = .slice (some ⟨g, o, none⟩) xs.length c ∧ g < B ∧ RowAt w g (o + k * 200) xs[k].cells := by
  obtain ⟨ao, c, rfl, _, _, hlen, h0 | ⟨g, o, rfl, hg, hr⟩⟩ := h
  · omega
  · refine ⟨g, o, c, rfl, hg, ?_⟩
    refine RowAt.elem hr (fun d hd => d.cells_length (hw d hd)) k hk
theorem acts_at {B : Nat} {w : World} {v : Value} {s : List ActD} (h : RdS B w v s.length 4 (actsCells s)) (k : Nat) (hk : k < s.length) : ∃ g o c, v = .slice (some ⟨g, o, none⟩) s.length c ∧ g < B ∧ RowAt w g (o + k * 4) s[k].cells := by
  obtain ⟨ao, c, rfl, _, _, hlen, h0 | ⟨g, o, rfl, hg, hr⟩⟩ := h
  · omega
  · exact ⟨g, o, c, rfl, hg, RowAt.elem hr (fun d _ => rfl) k hk⟩

set_option maxHeartbeats 2000000 in
theorem few_ok {B : Nat} (v : Value) (xs : List LtR) (w0 : World) (hr : RdS B w0 v xs.length 200 (ltsCells xs)) (hw : ∀ x ∈ xs, x.wf) :
    Calls Tryz.prog 32 #[v] w0 fun e w' => e = .returned (.bool (decide (xs.length ≤ 14) && xs.all fewLt)) ∧ w0.grownBy w' none := by
  have HA := Lib.hid (fun k hk => lts_at hr hw k hk)
  obtain ⟨ao, cp, rfl, hle, hcm, _, _⟩ := hr
  have HW := Lib.hid hw
  unfold maxLen at hcm
  obtain ⟨n, hn⟩ : ∃ n, xs.length = n := ⟨_, rfl⟩
  obtain ⟨R, hR⟩ : ∃ r, (decide (xs.length ≤ 14) && xs.all fewLt) = r := ⟨_, rfl⟩
  rw [hR]
  rw [hn] at hle hR
  have HN := Lib.hid hn; have HR := Lib.hid hR
  rw [hn]
  clear hw hn hR
  by_cases c14 : 14 < n
  · have hR : R = false := by rw [← HR.out, decide_eq_false (by omega)]; rfl
    have HR2 := Lib.hid hR
    clear hR
    go_enter Tryz.func32, Tryz.ntmps32
    go_wp2
    go_ret
    exact ⟨ret_b HR2.out, gb_refl _⟩
  have c14b : ¬ (14 : Int) < (n : Int) := by omega
  go_enter Tryz.func32, Tryz.ntmps32
  go_wp2
  go_loopw [3] (fun i wr => ∃ k : Nat, k ≤ n ∧ i = .int .i64 k ∧ (xs.take k).all fewLt = true ∧ w0.grownBy wr none) (fun i _ => n - (intOf i).toNat)
  case atStart => exact ⟨0, Nat.zero_le _, rfl, rfl, gb_refl _⟩
  case round =>
    obtain ⟨k, hk, rfl, he, hg⟩ := hrel
    have HE := Lib.hid he; have HG := Lib.hid hg
    clear he hg
    by_cases hlt : k < n
    · have hkx : k < xs.length := by rw [HN.out]; exact hlt
      obtain ⟨g, o, c, hv, hgB, hrow⟩ := HA.out k hkx
      rw [HN.out] at hv
      have e1 := (Value.slice.inj hv).1
      subst e1
      have FX := Lib.hid (hrow.grown HG.out (by simp))
      obtain ⟨x, hx⟩ : ∃ x, xs[k] = x := ⟨_, rfl⟩
      rw [hx] at FX
      have XW := Lib.hid (show x.wf from hx ▸ HW.out _ (List.getElem_mem hkx))
      have CF := Lib.hid (fun w => Few_ok x w XW.out)
      have HT := Lib.hid (show xs.take (k + 1) = xs.take k ++ [x] by rw [List.take_add_one, List.getElem?_eq_getElem hkx, hx]; rfl)
      have HX := Lib.hid (show x ∈ xs from hx ▸ List.getElem_mem hkx)
      obtain ⟨q, hq⟩ : ∃ q, fewLt x = q := ⟨_, rfl⟩
      rw [hq] at CF
      have HQ := Lib.hid hq
      clear hrow hx hq hv hkx
      go_wp2_with (first | ((with_reducible refine @wpList_at _ _ _ _ _ _ _ (.load 31 (.tmp 16)) rfl ?_); refine wpList_load_part rfl 31 _ rfl g ((o + k * 200)) rfl x.cells _ FX.out Tryz.underlying31 rfl (sizeLt _ XW.out) ?_))
      refine (CF.out _).mono ?_
      rintro e u ⟨rfl, g1⟩
      have HG2 := Lib.hid (HG.out.trans g1)
      clear g1
      cases q with
      | true =>
        go_wp2
        exact ⟨⟨k + 1, by omega, by go_num, by rw [HT.out, List.all_append, HE.out]; simp [HQ.out], HG2.out⟩, by simp [intOf]; omega⟩
      | false =>
        have hR : R = false := by
          rw [← HR.out]
          have : xs.all fewLt = false := by
            rw [List.all_eq_false]
            exact ⟨x, HX.out, by rw [HQ.out]; decide⟩
          rw [this, Bool.and_false]
        have HR2 := Lib.hid hR
        clear hR
        go_wp2
        go_ret
        exact ⟨ret_b HR2.out, HG2.out⟩
    · obtain rfl : k = n := by omega
      have hR : R = true := by
        rw [← HR.out, decide_eq_true (by omega)]
        have h := HE.out
        rwa [List.take_of_length_le (by rw [HN.out]; exact Nat.le_refl _)] at h
      have HR2 := Lib.hid hR
      clear hR
      go_wp2
      go_ret
      exact ⟨ret_b HR2.out, HG.out⟩

set_option maxHeartbeats 2000000 in
theorem same_ok {I J : Nat → Prop} {a b : Option Addr} {n m c d : Nat} {ls : List LightD} (w0 : World) (ha : LRow I w0 (.slice a n c) ls) (hb : LRow J w0 (.slice b m d) ls) :
    Calls Tryz.prog 41 #[.slice a n c, .slice b m d] w0 fun e w' => e = .returned (.bool true) ∧ w0.grownBy w' none := by
  have HA := Lib.hid ha; have HB := Lib.hid hb
  obtain ⟨a2, c2, e, hc1, hc2⟩ := ha.shape
  obtain ⟨b2, d2, e2, hd1, hd2⟩ := hb.shape
  obtain rfl := (Value.slice.inj e).2.1; obtain rfl := (Value.slice.inj e).2.2
  obtain rfl := (Value.slice.inj e2).2.1; obtain rfl := (Value.slice.inj e2).2.2
  unfold maxLen at hc2 hd2
  obtain ⟨N, hN⟩ : ∃ n, ls.length = n := ⟨_, rfl⟩
  rw [hN] at HA HB hc1 hd1
  rw [hN]
  have HN := Lib.hid hN
  clear ha hb e e2 hN a2 b2
  go_enter Tryz.func41, Tryz.ntmps41
  go_wp2
  go_loopw [5] (fun i wr => ∃ k : Nat, k ≤ N ∧ i = .int .i64 k ∧ w0.grownBy wr none) (fun i _ => N - (intOf i).toNat)
  case atStart => exact ⟨0, Nat.zero_le _, rfl, gb_refl _⟩
  case round =>
    obtain ⟨k, hk, rfl, hg⟩ := hrel
    have HG := Lib.hid hg
    clear hg
    by_cases hlt : k < N
    · have hkx : k < ls.length := by rw [HN.out]; exact hlt
      obtain ⟨g, o, c', x, hv, _, _, _, hrow, hof, i1, hfit⟩ := (HA.out.grown HG.out).get k hkx
      obtain ⟨g', o', d', y, hv', _, _, _, hrow', hof', i2, f2⟩ := (HB.out.grown HG.out).get k hkx
      have e1 := (Value.slice.inj hv).1; have e2 := (Value.slice.inj hv').1
      subst e1 e2
      have XW := Lib.hid (hof.wf hfit.wf); have YW := Lib.hid (hof'.wf hfit.wf)
      have CS := Lib.hid (fun u (gg : wr.grownBy u none) => SameLight_any ls[k] ls[k] x.cells y.cells u (hof.up gg (Nat.le_refl _)).rep (hof'.up gg (Nat.le_refl _)).rep hfit.wf hfit.wf (Nat.le_refl _))
      rw [sameLight_self] at CS
      have FX := Lib.hid hrow; have FY := Lib.hid hrow'
      have hix : ¬ ((N : Int) ≤ (k : Int)) := by omega
      have O := OwF.start (fun _ => False) wr
      clear hrow hrow' hof hof' hfit hv hv' i1 i2 f2 hkx
      go_upto_region 6 with (fail)
      replace O := O.drew
      refine wp_region_J (rdf [(3, g, (o + k * 200), x.cells), (7, g', (o' + k * 200), y.cells)]) [8] (by kernel_rfl) (RdA.cons (FX.out.grown (O.tch.grown (fun _ h => h.elim)) (by simp)) (RdA.cons (FY.out.grown (O.tch.grown (fun _ h => h.elim)) (by simp)) RdA.nil)) (fun hH => ?_)
      refine jp 0 ((.slice (some ⟨g, o, none⟩) N c)) (Still.all hH) ?_
      simp only [Act.put, jq1, jq3, jq4, jq5, jq6]
      refine jp 1 ((.int .i64 (k : Int))) (Still.all hH) ?_
      simp only [Act.put, jq1, jq2, jq3, jq4, jq5, jq6]
      refine jp 2 ((.pointer (some ⟨g, o + k * 200, none⟩))) (Still.all hH) ?_
      simp only [Act.put, jq1, jq2, jq3, jq4, jq5, jq6]
      refine jr 0 3 ((.agg (x.cells).toArray)) rfl rfl (yieldsIf_load_mid (by rfl) 31 _ rfl g (o + k * 200) rfl x.cells _ (fun W h => h) Tryz.underlying31 rfl (sizeLt _ XW.out)) (Still.all hH) ?_
      simp only [Act.put, jq1, jq2, jq3, jq4, jq5, jq6]
      refine jp 4 ((.slice (some ⟨g', o', none⟩) N d)) (Still.all hH) ?_
      simp only [Act.put, jq1, jq2, jq3, jq4, jq5, jq6]
      refine jp 5 ((.int .i64 (k : Int))) (Still.all hH) ?_
      simp only [Act.put, jq1, jq2, jq3, jq4, jq5, jq6]
      refine jp 6 ((.pointer (some ⟨g', o' + k * 200, none⟩))) (Still.all hH) ?_
      simp only [Act.put, jq1, jq2, jq3, jq4, jq5, jq6]
      refine jr 1 7 ((.agg (y.cells).toArray)) rfl rfl (yieldsIf_load_mid (by rfl) 31 _ rfl g' (o' + k * 200) rfl y.cells _ (fun W h => h) Tryz.underlying31 rfl (sizeLt _ YW.out)) (Still.all hH) ?_
      simp only [Act.put, jq1, jq2, jq3, jq4, jq5, jq6]
      refine wpAnyJ_ready (rs := [8]) (by kernel_rfl) (by simp) ?_
      refine AllJ.keep rfl (by rfl) (by rfl) (fun K hK => ?_) (AllJ.nil)
      refine wp_call 78 _ _ (by rfl) (enters Tryz.func78 (by kernel_rfl) rfl) (by rfl) (CS.out _ (O.tch.grown (fun _ h => h.elim))) ?_
      rintro e u ⟨rfl, g1⟩
      refine ⟨_, rfl, ?_⟩
      replace O := O.call g1
      simp only [Act.put, jq1, jq2, jq3, jq4, jq5, jq6]
      refine hK.out _ _ (RdA.grown hH g1) ?_
      replace hH := RdA.grown hH g1
      clear hK K
      clear g1
      refine jp 9 ((.bool true)) (Still.all hH) ?_
      simp only [Act.put, jq1, jq2, jq3, jq4, jq5, jq6]
      refine wpAnyJ_done (by kernel_rfl) ?_ _
      clear hH
      go_wp2
      exact ⟨⟨k + 1, by omega, by go_num, HG.out.trans (O.tch.grown (fun _ h => h.elim))⟩, by simp [intOf]; omega⟩
    · obtain rfl : k = N := by omega
      go_wp2
      go_ret
      exact ⟨rfl, HG.out⟩

theorem light_szz : (Tryz.prog.info? 31).map (·.size) = some ZLt0.length := by kernel_rfl
def zLt : LtR := ⟨⟨⟨#[]⟩, 0, 0, z32, z32, z32, z32, z32⟩, 0, 0, z32, none, 0, 0, none, 0, 0, none, 0, 0⟩
theorem zLt_cells : zLt.cells = ZLt0 := by kernel_rfl
theorem z32_len : z32.length = 32 := rfl
theorem zLt_wf : zLt.wf := ⟨⟨by decide, by unfold i64R; decide, by unfold i64R; decide, z32_len, z32_len, z32_len, z32_len, z32_len⟩, z32_len, by decide, by decide, by decide⟩
theorem bLight0 : Tryz.prog.built 31 [] = some ZLt0.toArray := by kernel_rfl
/-- the block that an act gives -/
def GivenPost (xs : List LtR) (kind want : Int) (w : World) (e : Ending) (w' : World) : Prop :=
  w.grownBy w' none ∧ ∃ (x : LtR) (b : Bool), x.wf ∧ e = .returned (.tuple #[.agg x.cells.toArray, .bool b]) ∧ (b = true → x ∈ xs ∧ (kind ≠ 2 → x.header.height = want))
set_option maxHeartbeats 4000000 in
theorem given_ok {B : Nat} (a : ActD) (v : Value) (xs : List LtR) (want : Int) (w0 : World) (hr : RdS B w0 v xs.length 200 (ltsCells xs)) (hw : ∀ x ∈ xs, x.wf) (ha : a.wf) :
    Calls Tryz.prog 38 #[.agg a.cells.toArray, v, .int .i64 want] w0 (GivenPost xs a.kind want w0) := by
  have HA := Lib.hid (fun k hk => lts_at hr hw k hk)
  obtain ⟨ao, cp, rfl, hle, hcm, _, _⟩ := hr
  have HW := Lib.hid hw
  unfold maxLen at hcm
  obtain ⟨n, hn⟩ : ∃ n, xs.length = n := ⟨_, rfl⟩
  rw [hn] at hle
  rw [hn]
  have HN := Lib.hid hn
  obtain ⟨K, NN, I, NOW⟩ := a
  have ha1 : i64R I := ha.i
  have HI := Lib.hid ha1
  have O := OwF.start (fun _ => False) w0
  have ZC := Lib.hid zLt_cells
  clear hw hn ha ha1
  unfold ActD.cells
  dsimp only
  by_cases c0 : n = 0
  · subst c0
    go_enter Tryz.func38, Tryz.ntmps38
    go_wp2_with (first | ((with_reducible refine @wpList_at _ _ _ _ _ _ _ (.box 78 (.tmp 0)) rfl ?_); refine @wpList_of_box _ _ _ _ _ _ _ _ _ _ 78 (.tmp 0) rfl [.int .i64 K, .int .i64 NN, .int .i64 I, .float .f64 NOW] rfl O rfl ?_; clear O; intro ba w O) | ((with_reducible refine @wpList_at _ _ _ _ _ _ _ (.alloc 31) rfl ?_); refine @wpList_of_alloc _ _ _ _ _ _ _ _ _ _ 31 rfl ZLt0 ZLt0_info O rfl ?_; clear O; intro bx w O) | ((with_reducible refine @wpList_at _ _ _ _ _ _ _ (.build 31 #[]) rfl ?_); refine wpList_build_eq rfl 31 _ rfl [] (by kernel_rfl) ZLt0 bLight0 ?_) | ((with_reducible refine @wpList_at _ _ _ _ _ _ _ (.store 31 (.tmp 6) (.tmp 13)) rfl ?_); refine @wpList_of_store _ _ _ _ _ _ _ _ _ _ 31 (.tmp 6) (.tmp 13) rfl O 0 bx rfl ZLt0 ZLt0 _ rfl rfl (by first | rfl | exact LtR.cells_length _ XW.out) (by first | exact ZLt0_one | exact LtR_one _) light_szz rfl ?_; clear O; intro w O; simp only [List.set_cons_zero] at O))
    refine bodyPost_ret (results_cell_tmp rfl _ _ ⟨bx, 0, none⟩ _ _ rfl rfl (run_loadVar_part _ _ _ 31 ZLt0 _ (O.row_of (g := bx) (T := 31) (by simp)) Tryz.underlying31 rfl light_szz)) rfl ?_
    exact ⟨O.tch.grown (fun _ h => h.elim), zLt, false, zLt_wf, by rw [ZC.out]; rfl, fun h => by cases h⟩
  have c0i : ¬ (n : Int) = 0 := by omega
  by_cases c2 : K = 2
  · have HC2 := Lib.hid c2
    have c2b : (K == 2) = true := by simpa using c2
    clear c2
    have hi := HI.out
    unfold i64R at hi
    obtain ⟨j, hj⟩ : ∃ j : Nat, (if I < 0 then -(I + 1) else I) = (j : Int) := ⟨(if I < 0 then -(I + 1) else I).toNat, by split <;> omega⟩
    have hjr : (j : Int) ≤ 9223372036854775807 := by rw [← hj]; split <;> omega
    obtain ⟨k, hk⟩ : ∃ k, j % n = k := ⟨_, rfl⟩
    have hlt : k < n := by rw [← hk]; exact Nat.mod_lt _ (by omega)
    have hrem : (j : Int).tmod (n : Int) = (k : Int) := by rw [Int.tmod_eq_emod_of_nonneg (by omega), ← hk]; rfl
    have hrem2 : (j : Int) % (n : Int) = (k : Int) := by rw [← hk]; rfl
    have hrem3 : ((j % n : Nat) : Int) = (k : Int) := by rw [hk]
    have ew := IntWalk.i64_in (k : Int) (by omega)
    have ew2 := IntWalk.i64_in (j : Int) (by omega)
    have hkx : k < xs.length := by rw [HN.out]; exact hlt
    obtain ⟨g, o, c, hv, hgB, hrow⟩ := HA.out k hkx
    have e1 := (Value.slice.inj hv).1
    subst e1
    have FX := Lib.hid hrow
    obtain ⟨x, hx⟩ : ∃ x, xs[k] = x := ⟨_, rfl⟩
    rw [hx] at FX
    have XW := Lib.hid (show x.wf from hx ▸ HW.out _ (List.getElem_mem hkx))
    have HX := Lib.hid (show x ∈ xs from hx ▸ List.getElem_mem hkx)
    have hix : ¬ ((n : Int) ≤ (k : Int)) := by omega
    clear hrow hx hv hkx hk
    by_cases ci : I < 0
    · rw [if_pos ci] at hj
      have ew3 := IntWalk.i64_in (I + 1) (by omega)
      have hneg : -(I + 1) = (j : Int) := hj
      clear hj hi
      go_enter Tryz.func38, Tryz.ntmps38
      go_wp2_with (first | ((with_reducible refine @wpList_at _ _ _ _ _ _ _ (.box 78 (.tmp 0)) rfl ?_); refine @wpList_of_box _ _ _ _ _ _ _ _ _ _ 78 (.tmp 0) rfl [.int .i64 K, .int .i64 NN, .int .i64 I, .float .f64 NOW] rfl O rfl ?_; clear O; intro ba w O) | ((with_reducible refine @wpList_at _ _ _ _ _ _ _ (.alloc 31) rfl ?_); refine @wpList_of_alloc _ _ _ _ _ _ _ _ _ _ 31 rfl ZLt0 ZLt0_info O rfl ?_; clear O; intro bx w O) | ((with_reducible refine @wpList_at _ _ _ _ _ _ _ (.load 3 (.tmp 14)) rfl ?_); refine @wpList_of_cell _ _ _ _ _ _ _ _ _ _ 3 (.tmp 14) rfl O 1 ba 0 rfl _ _ rfl _ rfl _ Tryz.underlying3 rfl rfl ?_) | ((with_reducible refine @wpList_at _ _ _ _ _ _ _ (.load 3 (.tmp 17)) rfl ?_); refine @wpList_of_cell _ _ _ _ _ _ _ _ _ _ 3 (.tmp 17) rfl O 1 ba 2 rfl _ _ rfl _ rfl _ Tryz.underlying3 rfl rfl ?_) | ((with_reducible refine @wpList_at _ _ _ _ _ _ _ (.load 31 (.tmp 29)) rfl ?_); refine wpList_load_part rfl 31 _ rfl g ((o + k * 200)) rfl x.cells _ (FX.out.grown (O.tch.grown (fun _ h => h.elim)) (by simp)) Tryz.underlying31 rfl (sizeLt _ XW.out) ?_) | ((with_reducible refine @wpList_at _ _ _ _ _ _ _ (.store 31 (.tmp 6) (.tmp 30)) rfl ?_); refine @wpList_of_store _ _ _ _ _ _ _ _ _ _ 31 (.tmp 6) (.tmp 30) rfl O 0 bx rfl x.cells ZLt0 _ rfl rfl (by first | rfl | exact LtR.cells_length _ XW.out) (by first | exact ZLt0_one | exact LtR_one _) (sizeLt _ XW.out) rfl ?_; clear O; intro w O; simp only [List.set_cons_zero] at O))
      refine bodyPost_ret (results_cell_tmp rfl _ _ ⟨bx, 0, none⟩ _ _ rfl rfl (run_loadVar_part _ _ _ 31 x.cells _ (O.row_of (g := bx) (T := 31) (by simp)) Tryz.underlying31 rfl (sizeLt _ XW.out))) rfl ?_
      exact ⟨O.tch.grown (fun _ h => h.elim), x, true, XW.out, rfl, fun _ => ⟨HX.out, fun h => absurd HC2.out h⟩⟩
    · rw [if_neg ci] at hj
      have hI : I = (j : Int) := hj
      clear hj hi
      go_enter Tryz.func38, Tryz.ntmps38
      go_wp2_with (first | ((with_reducible refine @wpList_at _ _ _ _ _ _ _ (.box 78 (.tmp 0)) rfl ?_); refine @wpList_of_box _ _ _ _ _ _ _ _ _ _ 78 (.tmp 0) rfl [.int .i64 K, .int .i64 NN, .int .i64 I, .float .f64 NOW] rfl O rfl ?_; clear O; intro ba w O) | ((with_reducible refine @wpList_at _ _ _ _ _ _ _ (.alloc 31) rfl ?_); refine @wpList_of_alloc _ _ _ _ _ _ _ _ _ _ 31 rfl ZLt0 ZLt0_info O rfl ?_; clear O; intro bx w O) | ((with_reducible refine @wpList_at _ _ _ _ _ _ _ (.load 3 (.tmp 14)) rfl ?_); refine @wpList_of_cell _ _ _ _ _ _ _ _ _ _ 3 (.tmp 14) rfl O 1 ba 0 rfl _ _ rfl _ rfl _ Tryz.underlying3 rfl rfl ?_) | ((with_reducible refine @wpList_at _ _ _ _ _ _ _ (.load 3 (.tmp 17)) rfl ?_); refine @wpList_of_cell _ _ _ _ _ _ _ _ _ _ 3 (.tmp 17) rfl O 1 ba 2 rfl _ _ rfl _ rfl _ Tryz.underlying3 rfl rfl ?_) | ((with_reducible refine @wpList_at _ _ _ _ _ _ _ (.load 31 (.tmp 29)) rfl ?_); refine wpList_load_part rfl 31 _ rfl g ((o + k * 200)) rfl x.cells _ (FX.out.grown (O.tch.grown (fun _ h => h.elim)) (by simp)) Tryz.underlying31 rfl (sizeLt _ XW.out) ?_) | ((with_reducible refine @wpList_at _ _ _ _ _ _ _ (.store 31 (.tmp 6) (.tmp 30)) rfl ?_); refine @wpList_of_store _ _ _ _ _ _ _ _ _ _ 31 (.tmp 6) (.tmp 30) rfl O 0 bx rfl x.cells ZLt0 _ rfl rfl (by first | rfl | exact LtR.cells_length _ XW.out) (by first | exact ZLt0_one | exact LtR_one _) (sizeLt _ XW.out) rfl ?_; clear O; intro w O; simp only [List.set_cons_zero] at O))
      refine bodyPost_ret (results_cell_tmp rfl _ _ ⟨bx, 0, none⟩ _ _ rfl rfl (run_loadVar_part _ _ _ 31 x.cells _ (O.row_of (g := bx) (T := 31) (by simp)) Tryz.underlying31 rfl (sizeLt _ XW.out))) rfl ?_
      exact ⟨O.tch.grown (fun _ h => h.elim), x, true, XW.out, rfl, fun _ => ⟨HX.out, fun h => absurd HC2.out h⟩⟩
  have c2i : (K == 2) = false := by simpa using c2
  go_enter Tryz.func38, Tryz.ntmps38
  go_wp2_with (first | ((with_reducible refine @wpList_at _ _ _ _ _ _ _ (.box 78 (.tmp 0)) rfl ?_); refine @wpList_of_box _ _ _ _ _ _ _ _ _ _ 78 (.tmp 0) rfl [.int .i64 K, .int .i64 NN, .int .i64 I, .float .f64 NOW] rfl O rfl ?_; clear O; intro ba w O) | ((with_reducible refine @wpList_at _ _ _ _ _ _ _ (.alloc 31) rfl ?_); refine @wpList_of_alloc _ _ _ _ _ _ _ _ _ _ 31 rfl ZLt0 ZLt0_info O rfl ?_; clear O; intro bx w O) | ((with_reducible refine @wpList_at _ _ _ _ _ _ _ (.load 3 (.tmp 14)) rfl ?_); refine @wpList_of_cell _ _ _ _ _ _ _ _ _ _ 3 (.tmp 14) rfl O 1 ba 0 rfl _ _ rfl _ rfl _ Tryz.underlying3 rfl rfl ?_))
  go_loopw [9] (fun i wr => ∃ k : Nat, k ≤ n ∧ i = .int .i64 k ∧ OwF (fun _ => False) w0 wr [(bx, ZLt0, 31), (ba, [.int .i64 K, .int .i64 NN, .int .i64 I, .float .f64 NOW], 78)]) (fun i _ => n - (intOf i).toNat)
  case atStart => exact ⟨0, Nat.zero_le _, rfl, O⟩
  case round =>
    clear O
    obtain ⟨k, hk, rfl, O⟩ := hrel
    by_cases hlt : k < n
    · have hkx : k < xs.length := by rw [HN.out]; exact hlt
      obtain ⟨g, o, c, hv, hgB, hrow⟩ := HA.out k hkx
      have e1 := (Value.slice.inj hv).1
      subst e1
      obtain ⟨x, hx⟩ : ∃ x, xs[k] = x := ⟨_, rfl⟩
      rw [hx] at hrow
      have FX := Lib.hid hrow
      have XW := Lib.hid (show x.wf from hx ▸ HW.out _ (List.getElem_mem hkx))
      have HX := Lib.hid (show x ∈ xs from hx ▸ List.getElem_mem hkx)
      have hix : ¬ ((n : Int) ≤ (k : Int)) := by omega
      have c1 := hrow.grown (O.tch.grown (fun _ h => h.elim)) (by simp) 1 (.int .i64 x.header.height) rfl
      obtain ⟨H, hH⟩ : ∃ h, x.header.height = h := ⟨_, rfl⟩
      rw [hH] at c1
      have HH := Lib.hid hH
      clear hrow hx hv hkx hH
      by_cases ch : H = want
      · subst ch
        go_wp2_with (first | ((with_reducible refine @wpList_at _ _ _ _ _ _ _ (.load 31 (.tmp 47)) rfl ?_); refine wpList_load_part rfl 31 _ rfl g ((o + k * 200)) rfl x.cells _ (FX.out.grown (O.tch.grown (fun _ h => h.elim)) (by simp)) Tryz.underlying31 rfl (sizeLt _ XW.out) ?_) | ((with_reducible refine @wpList_at _ _ _ _ _ _ _ (.store 31 (.tmp 6) (.tmp 48)) rfl ?_); refine @wpList_of_store _ _ _ _ _ _ _ _ _ _ 31 (.tmp 6) (.tmp 48) rfl O 0 bx rfl x.cells ZLt0 _ rfl rfl (by first | rfl | exact LtR.cells_length _ XW.out) (by first | exact ZLt0_one | exact LtR_one _) (sizeLt _ XW.out) rfl ?_; clear O; intro w O; simp only [List.set_cons_zero] at O))
        refine bodyPost_ret (results_cell_tmp rfl _ _ ⟨bx, 0, none⟩ _ _ rfl rfl (run_loadVar_part _ _ _ 31 x.cells _ (O.row_of (g := bx) (T := 31) (by simp)) Tryz.underlying31 rfl (sizeLt _ XW.out))) rfl ?_
        exact ⟨O.tch.grown (fun _ h => h.elim), x, true, XW.out, rfl, fun _ => ⟨HX.out, fun _ => HH.out⟩⟩
      · have chb : (H == want) = false := by simpa using ch
        go_wp2
        exact ⟨⟨k + 1, by omega, by go_num, O⟩, by simp [intOf]; omega⟩
    · obtain rfl : k = n := by omega
      go_wp2_with (first | ((with_reducible refine @wpList_at _ _ _ _ _ _ _ (.build 31 #[]) rfl ?_); refine wpList_build_eq rfl 31 _ rfl [] (by kernel_rfl) ZLt0 bLight0 ?_) | ((with_reducible refine @wpList_at _ _ _ _ _ _ _ (.store 31 (.tmp 6) (.tmp 49)) rfl ?_); refine @wpList_of_store _ _ _ _ _ _ _ _ _ _ 31 (.tmp 6) (.tmp 49) rfl O 0 bx rfl ZLt0 ZLt0 _ rfl rfl (by first | rfl | exact LtR.cells_length _ XW.out) (by first | exact ZLt0_one | exact LtR_one _) light_szz rfl ?_; clear O; intro w O; simp only [List.set_cons_zero] at O))
      refine bodyPost_ret (results_cell_tmp rfl _ _ ⟨bx, 0, none⟩ _ _ rfl rfl (run_loadVar_part _ _ _ 31 ZLt0 _ (O.row_of (g := bx) (T := 31) (by simp)) Tryz.underlying31 rfl light_szz)) rfl ?_
      exact ⟨O.tch.grown (fun _ h => h.elim), zLt, false, zLt_wf, by rw [ZC.out]; rfl, fun h => by cases h⟩

/-! plainly -/
theorem climb_total (now : Nat) : ∀ (n : Nat) (c : BcD), c.pend.length = n → (BcD.climb now n c).1.store.length + (BcD.climb now n c).1.pend.length ≤ c.store.length + c.pend.length
  | 0, c, _ => Nat.le_refl _
  | n + 1, c, hn => by
    unfold BcD.climb
    dsimp only
    split
    · have := climb_total now n { c with store := c.store ++ [lastB c.pend], pend := c.pend.dropLast } (by simp [hn])
      dsimp only at this
      rw [List.length_append, List.length_dropLast] at this
      simp only [List.length_cons, List.length_nil] at this
      omega
    · split
      · exact Nat.le_refl _
      · simp [BcD.drop]
theorem give_total (c : BcD) (l : LightD) (now : Nat) : (c.give l now).1.store.length + (c.give l now).1.pend.length ≤ c.store.length + c.pend.length + 1 := by
  unfold BcD.give
  split
  · exact Nat.le_succ _
  split
  · simp [BcD.drop]; omega
  · have := climb_total now (c.pend.length + 1) { c with fet := c.fet + 1, pend := c.pend ++ [l] } (by simp)
    dsimp only at this
    rw [List.length_append] at this
    simpa [Nat.add_assoc] using this
theorem goal_total (c : BcD) (n : Int) : (c.goal n).1.store.length + (c.goal n).1.pend.length ≤ c.store.length + c.pend.length := by
  unfold BcD.goal
  split
  · exact Nat.le_refl _
  split
  · exact Nat.le_refl _
  · simp
theorem goal_keeps (c : BcD) (n : Int) : (c.goal n).1.o = c.o ∧ (c.goal n).1.store = c.store := by
  unfold BcD.goal
  split
  · exact ⟨rfl, rfl⟩
  split <;> exact ⟨rfl, rfl⟩
/-- a block that is given leaves what was trusted; each one that is trusted behind it may be, from the one ahead -/
theorem give_keeps {c : BcD} (hs : c.store ≠ []) (l : LightD) (now : Nat) : (c.give l now).1.o = c.o ∧ (∃ add, (c.give l now).1.store = c.store ++ add) ∧ Steps now c.o c.store.length (c.give l now).1.store := by
  unfold BcD.give
  split
  · exact ⟨rfl, ⟨[], by simp⟩, steps_none _ _ _⟩
  split
  · exact ⟨rfl, ⟨[], by simp [BcD.drop]⟩, steps_none _ _ _⟩
  · have k := climb_ok now (c.pend.length + 1) { c with fet := c.fet + 1, pend := c.pend ++ [l] } hs (by simp)
    obtain ⟨add, e, _⟩ := k.store
    exact ⟨k.o, ⟨add, e⟩, k.steps _ (steps_none _ _ _)⟩
theorem new_winv {l : LightD} (h : hOk l) (o : OptD) : WInv (BcD.new l o) 0 :=
  ⟨by simp [BcD.new], h, by simp [BcD.new], by simp [BcD.new], fun _ => rfl, fun h => absurd rfl h⟩
theorem goal_winv {c : BcD} {g : Int} (h : WInv c g) (n : Int) : WInv (c.goal n).1 (if (c.goal n).2 = 0 then n else g) := by
  by_cases h1 : 1099511627776 < n
  · have e : c.goal n = (c, 1) := by unfold BcD.goal; rw [if_pos h1]
    rw [e, if_neg (show ¬ (1 : Int) = 0 by decide)]; exact h
  · by_cases h2 : n ≤ (lastB c.store).header.height
    · have e : c.goal n = (c, 153) := by unfold BcD.goal; rw [if_neg h1, if_pos h2]
      rw [e, if_neg (show ¬ (153 : Int) = 0 by decide)]; exact h
    · obtain ⟨k, e⟩ := goal_inv h.some h.last h1 h2
      rw [if_pos e]; exact k
theorem give_winv {c : BcD} {g : Int} (h : WInv c g) (l : LightD) (now : Nat) : WInv (c.give l now).1 g := by
  unfold BcD.give
  split
  · exact h
  split
  · exact ⟨h.some, h.last, by simp [BcD.drop], by simp [BcD.drop], fun _ => rfl, fun h => absurd rfl h⟩
  · rename_i h1 _
    simp only [not_or, Decidable.not_not] at h1
    exact (climb_inv now g (c.pend.length + 1) { c with fet := c.fet + 1, pend := c.pend ++ [l] } (by simp) (give_stack h h1.1 h1.2.1)).1
theorem give_first {c : BcD} (hs : c.store ≠ []) (l : LightD) (now : Nat) : firstB (c.give l now).1.store = firstB c.store := by
  obtain ⟨_, ⟨add, e⟩, _⟩ := give_keeps hs l now
  rw [e]; exact firstB_app hs _

theorem bnew_hOk {l : LightD} {now : Nat} {o : OptD} (h : bnewE l now o = 0) : hOk l := by
  unfold bnewE at h
  split at h
  · exact absurd h (by decide)
  split at h
  · exact absurd h (by decide)
  split at h
  · rename_i h1; exact absurd h h1
  · rename_i h1
    exact sound_hOk (chain := l.header.chain) (by simpa using h1)
theorem gb_drewN (w : World) (n : Nat) : w.grownBy (w.drewN n) none := ⟨rfl, rfl, rfl, Nat.le_refl _, fun _ _ _ => rfl⟩
/-- a light client in memory at p, beside blocks L and rows R of light blocks; what was in w0 is as it was -/
structure Kept16 (T : TypeId) (w0 w : World) (L : List (Nat × List Value × TypeId)) (R : List (Value × List LightD)) (p : Nat) (c : BcD) : Prop where
  own : ∀ e ∈ L, Blk w e.1 e.2.1 e.2.2
  new : ∀ e ∈ L, w0.heap.size ≤ e.1
  nodup : L.Pairwise fun d e => d.1 ≠ e.1
  g : w0.grownBy w none
  ex : ∃ (K I : Nat → Prop) (sv pv : Value), BcRep T I w p sv pv c ∧ I 1 ∧
    (∀ b, Foot p sv pv b → w0.heap.size ≤ b ∧ ¬ K b ∧ ∀ e ∈ L, e.1 ≠ b) ∧
    (∀ b, I b → ∀ e ∈ L, e.1 ≠ b) ∧
    (∀ b, K b → b < w.heap.size ∧ ∀ e ∈ L, e.1 ≠ b) ∧
    ∀ r ∈ R, LRow K w r.1 r.2 ∧ ∀ b, r.1.ownBlock = some b → K b
section
variable {T : TypeId} {w0 w w' : World} {L L' : List (Nat × List Value × TypeId)} {R : List (Value × List LightD)} {p : Nat} {c c' : BcD}
theorem Kept16.O (h : Kept16 T w0 w L R p c) : OwF (fun b => ∃ e ∈ L, e.1 = b) w w L := ⟨Tch.refl _ _, h.own, fun e he => .inr ⟨e, he, rfl⟩, h.nodup⟩
theorem Kept16.move (h : Kept16 T w0 w L R p c) (O : OwF (fun b => ∃ e ∈ L, e.1 = b) w w' L') : Kept16 T w0 w' L' R p c := by
  obtain ⟨K, I, sv, pv, r, hi, hf, hI, hK, hR⟩ := h.ex
  have hL : ∀ b, b < w.heap.size → (∀ e ∈ L, e.1 ≠ b) → ∀ e ∈ L', e.1 ≠ b := fun b hb hn e he => by
    rcases O.ok e he with h1 | ⟨d, hd, e1⟩
    · omega
    · rw [← e1]; exact hn d hd
  refine ⟨O.blk, ?_, O.nodup, ?_, K, I, sv, pv, ?_, hi, ?_, ?_, ?_, ?_⟩
  · intro e he
    rcases O.ok e he with h1 | ⟨d, hd, e1⟩
    · exact Nat.le_trans h.g.size h1
    · rw [← e1]; exact h.new d hd
  · exact ((Tch.of_grown (F := fun _ => False) h.g).trans O.tch (fun b hb hl => by obtain ⟨e, he, rfl⟩ := hb; have := h.new e he; omega)).grown (fun _ h => h.elim)
  · exact r.tch O.tch (fun b hb _ => by
      obtain ⟨e, he, rfl⟩ := hb
      exact ⟨fun hf2 => (hf _ hf2).2.2 e he rfl, fun hi2 => hI _ hi2 e he rfl⟩)
  · exact fun b hb => ⟨(hf b hb).1, (hf b hb).2.1, hL b (r.lt hb) (hf b hb).2.2⟩
  · exact fun b hb => hL b (r.out b hb).1 (hI b hb)
  · exact fun b hb => ⟨Nat.lt_of_lt_of_le (hK b hb).1 O.tch.size, hL b (hK b hb).1 (hK b hb).2⟩
  · exact fun x hx => ⟨(hR x hx).1.tch O.tch (fun b hb hq => by obtain ⟨e, he, e1⟩ := hq; exact (hK b ((hR x hx).2 b hb)).2 e he e1) (fun b hb hq => by obtain ⟨e, he, e1⟩ := hq; exact (hK b hb).2 e he e1), (hR x hx).2⟩
theorem Kept16.grown (h : Kept16 T w0 w L R p c) (g : w.grownBy w' none) : Kept16 T w0 w' L R p c := h.move (h.O.call g)
/-- a step of the client -/
theorem Kept16.call {P : Program} {f : Nat} {args : Array Value} {E : Ending} (h : Kept16 T w0 w L R p c)
    (C : ∀ (I : Nat → Prop) (sv pv : Value), BcRep T I w p sv pv c → I 1 → (∀ b, Foot p sv pv b → w0.heap.size ≤ b) → Calls P f args w fun e w' => e = E ∧ BcPostI T I w p sv pv c' w') :
    Calls P f args w fun e w' => e = E ∧ Kept16 T w0 w' L R p c' := by
  obtain ⟨K, I, sv, pv, r, hi, hf, hI, hK, hR⟩ := h.ex
  refine (C I sv pv r hi (fun b hb => (hf b hb).1)).mono ?_
  rintro e w' ⟨he, I', i1, i2, sv', pv', r', t, f'⟩
  refine ⟨he, fun e he => t.blk (h.own e he) (fun hb => (hf _ hb).2.2 e he rfl), h.new, h.nodup, ?_, K, I', sv', pv', r', i1 _ hi, ?_, ?_, ?_, ?_⟩
  · exact ((Tch.of_grown (F := fun _ => False) h.g).trans t (fun b hb hl => by have := (hf b hb).1; omega)).grown (fun _ h => h.elim)
  · intro b hb
    rcases f' b hb with h1 | h1
    · exact hf b h1
    · exact ⟨Nat.le_trans h.g.size h1, fun hk => by have := (hK b hk).1; omega, fun e he e1 => by have := (h.own e he).lt; omega⟩
  · intro b hb e he e1
    rcases i2 b hb with h1 | h1
    · exact hI b h1 e he e1
    · have := (h.own e he).lt; omega
  · exact fun b hb => ⟨Nat.lt_of_lt_of_le (hK b hb).1 t.size, (hK b hb).2⟩
  · exact fun x hx => ⟨(hR x hx).1.tch t (fun b hb hq => (hf b hq).2.1 ((hR x hx).2 b hb)) (fun b hb hq => (hf b hq).2.1 hb), (hR x hx).2⟩
/-- copies that it shows are kept -/
theorem Kept16.copies {v : Value} {ls : List LightD} (h : Kept16 T w0 w L R p c) (k : Copies w ls v w') : Kept16 T w0 w' L ((v, ls) :: R) p c := by
  obtain ⟨g, J, hJ, hr, ho⟩ := k
  obtain ⟨K, I, sv, pv, r, hi, hf, hI, hK, hR⟩ := h.ex
  have hr2 : LRow (fun b => K b ∨ (w.heap.size ≤ b ∧ b < w'.heap.size)) w' v ls := hr.mono (fun b hb => .inr ⟨(hJ b hb).1, (hJ b hb).2.1⟩)
  refine ⟨fun e he => (h.own e he).grown g (by simp), h.new, h.nodup, h.g.trans g, fun b => K b ∨ (w.heap.size ≤ b ∧ b < w'.heap.size), I, sv, pv, r.grown g, hi, ?_, hI, ?_, ?_⟩
  · exact fun b hb => ⟨(hf b hb).1, fun hk => hk.elim (hf b hb).2.1 (fun h1 => by have := r.lt hb; omega), (hf b hb).2.2⟩
  · intro b hb
    rcases hb with hb | hb
    · exact ⟨Nat.lt_of_lt_of_le (hK b hb).1 g.size, (hK b hb).2⟩
    · exact ⟨hb.2, fun e he e1 => by have := (h.own e he).lt; omega⟩
  · intro x hx
    rcases List.mem_cons.1 hx with rfl | hx
    · exact ⟨hr2, fun b hb => .inr ⟨ho b hb, hr.lt hb⟩⟩
    · exact ⟨((hR x hx).1.grown g).mono (fun b hb => .inl hb), fun b hb => .inl ((hR x hx).2 b hb)⟩
theorem Kept16.rows0 (h : Kept16 T w0 w L R p c) : Kept16 T w0 w L [] p c := by
  obtain ⟨K, I, sv, pv, r, hi, hf, hI, hK, hR⟩ := h.ex
  exact ⟨h.own, h.new, h.nodup, h.g, K, I, sv, pv, r, hi, hf, hI, hK, by simp⟩
theorem Kept16.row (h : Kept16 T w0 w L R p c) (n : Nat) {v : Value} {ls : List LightD} (hn : R[n]? = some (v, ls)) : ∃ K : Nat → Prop, LRow K w v ls := by
  obtain ⟨K, I, sv, pv, r, hi, hf, hI, hK, hR⟩ := h.ex
  exact ⟨K, (hR _ (List.mem_of_getElem? hn)).1⟩
theorem Kept16.rep (h : Kept16 T w0 w L R p c) : ∃ I sv pv, BcRep T I w p sv pv c := by
  obtain ⟨K, I, sv, pv, r, _⟩ := h.ex
  exact ⟨I, sv, pv, r⟩
theorem Kept16.ok (h : Kept16 T w0 w L R p c) : c.ok := by obtain ⟨I, sv, pv, r⟩ := h.rep; exact r.ok
theorem Kept16.fits (h : Kept16 T w0 w L R p c) : ∀ l ∈ c.store, l.fit := by obtain ⟨I, sv, pv, r⟩ := h.rep; exact r.store.fit
end
section
variable {w0 w : World} {L : List (Nat × List Value × TypeId)} {R : List (Value × List LightD)} {p : Nat} {c : BcD}
theorem kGoal (h : Kept16 125 w0 w L R p c) (n : Int) : Calls Tryz.prog 37 #[.pointer (some ⟨p, 0, none⟩), .int .i64 n] w fun e w' => e = .returned (.int .i64 (c.goal n).2) ∧ Kept16 125 w0 w' L R p (c.goal n).1 :=
  h.call fun _ _ _ r _ _ => (Goal_ok r n).mono fun _ _ k => ⟨k.1, k.2.toI⟩
theorem kGive (h : Kept16 125 w0 w L R p c) (x : LtR) (l : LightD) (hof : x.of w0.heap.size w0 l) (hfit : l.fit) (now : Nat) (hnow : now < 18446744073709551616) (hR : RowAt w0 1 0 (wCells rootsL)) (hroom : c.store.length + c.pend.length + 1 ≤ 100000) :
    Calls Tryz.prog 40 #[.pointer (some ⟨p, 0, none⟩), .agg x.cells.toArray, .float .f64 now] w fun e w' => e = .returned (.int .i64 (c.give l now).2) ∧ Kept16 125 w0 w' L R p (c.give l now).1 :=
  h.call fun _ _ _ r hi hf => Give_ok r x l (hof.up h.g (Nat.le_refl _)) hfit (· < w0.heap.size) hof.inn (fun b hb hq => by have := hf b hq; omega) now hnow (hR.grown h.g (by simp)) hi hroom
theorem kWant (h : Kept16 125 w0 w L R p c) : Calls Tryz.prog 39 #[.pointer (some ⟨p, 0, none⟩)] w fun e w' => e = .returned (.int .i64 c.want) ∧ w.grownBy w' none := by
  obtain ⟨I, sv, pv, r⟩ := h.rep
  exact Want_ok r
theorem kStore (h : Kept16 125 w0 w L R p c) : Calls Tryz.prog 36 #[.pointer (some ⟨p, 0, none⟩)] w fun e w' => ∃ a n k, e = .returned (.slice a n k) ∧ n = c.store.length ∧ Kept16 125 w0 w' L ((.slice a n k, c.store) :: R) p c := by
  obtain ⟨I, sv, pv, r⟩ := h.rep
  refine (Store_ok r).mono ?_
  rintro e w' ⟨a, n, k, rfl, hc⟩
  obtain ⟨K, hr⟩ := (h.copies hc).row 0 rfl
  obtain ⟨a2, c2, e, _⟩ := hr.shape
  exact ⟨a, n, k, rfl, (Value.slice.inj e).2.1, h.copies hc⟩
/-- what New answers -/
theorem kNew (x : LtR) (l : LightD) (now : Nat) (o : OptD) (hof : x.of w0.heap.size w0 l) (hfit : l.fit) (hnow : now < 18446744073709551616) (ho : o.wf) (hR : RowAt w0 1 0 (wCells rootsL)) (O : OwF (fun _ => False) w0 w L) :
    Calls Tryz.prog 35 #[.agg x.cells.toArray, .float .f64 now, .agg o.cells.toArray] w fun e w' => ∃ P, e = .returned (.tuple #[P, .int .i64 (bnewE l now o)]) ∧ w.grownBy w' none ∧
      ((bnewE l now o ≠ 0 ∧ P = .pointer none) ∨ (bnewE l now o = 0 ∧ ∃ p, P = .pointer (some ⟨p, 0, none⟩) ∧ Kept16 125 w0 w' L [] p (BcD.new l o))) := by
  have g0 : w0.grownBy w none := O.tch.grown (fun _ h => h.elim)
  refine (New_ok2 x l now o w (hof.up g0 (Nat.le_refl _)) hfit hnow ho (hR.grown g0 (by simp))).mono ?_
  rintro e w' ⟨g, ⟨h1, h2⟩ | ⟨h1, q, sv, I, rfl, r, f, i, ir⟩⟩
  · exact ⟨_, h2, g, .inl ⟨h1, rfl⟩⟩
  · have hrl : 1 < w0.heap.size := World.block_lt_of_cell? _ _ (hR 0 _ rfl)
    have hz := g0.size
    refine ⟨_, by rw [h1], g, .inr ⟨h1, q, rfl, ⟨fun e he => (O.blk e he).grown g (by simp), fun e he => (O.ok e he).resolve_right id, O.nodup, g0.trans g, fun _ => False, I, sv, _, r, ir, ?_, ?_, fun _ h => h.elim, by simp⟩⟩⟩
    · exact fun b hb => ⟨Nat.le_trans hz (f b hb), id, fun e he e1 => by have := (O.blk e he).lt; have := f b hb; omega⟩
    · intro b hb e he e1
      have h2 := (O.blk e he).lt; have h3 := (O.ok e he).resolve_right id
      rcases i b hb with h | h <;> omega
/-- light blocks that came in -/
structure Came (w0 : World) (v : Value) (xs : List LtR) : Prop where
  row : RdS w0.heap.size w0 v xs.length 200 (ltsCells xs)
  each : ∀ x ∈ xs, ∃ l, x.of w0.heap.size w0 l ∧ l.wf ∧ l.header.chain.size ≤ 140737488351232
theorem Came.wf {v : Value} {xs : List LtR} (h : Came w0 v xs) : ∀ x ∈ xs, x.wf := fun x hx => by
  obtain ⟨l, h1, h2, _⟩ := h.each x hx
  exact h1.wf h2
theorem Came.fit {v : Value} {xs : List LtR} (h : Came w0 v xs) (hf : xs.all fewLt = true) : ∀ x ∈ xs, ∃ l, x.of w0.heap.size w0 l ∧ l.fit := fun x hx => by
  obtain ⟨l, h1, h2, h3⟩ := h.each x hx
  obtain ⟨k1, k2, k3⟩ := (few_lens h1).1 (List.all_eq_true.1 hf x hx)
  exact ⟨l, h1, h2, k3, k1, k2, h3⟩
theorem OwF.sub {F : Nat → Prop} {w0 w : World} {L L' : List (Nat × List Value × TypeId)} (O : OwF F w0 w L) (h : L'.Sublist L) : OwF F w0 w L' :=
  ⟨O.tch, fun e he => O.blk e (h.subset he), fun e he => O.ok e (h.subset he), O.nodup.sublist h⟩
theorem Kept16.only {T : TypeId} {L' : List (Nat × List Value × TypeId)} (h : Kept16 T w0 w L R p c) (hl : L'.Sublist L) : Kept16 T w0 w L' R p c := h.move (h.O.sub hl)
/-- beside blocks that were made since -/
theorem Kept16.joins {T : TypeId} {w' : World} {L' : List (Nat × List Value × TypeId)} (h : Kept16 T w0 w L R p c) (O : OwF (fun _ => False) w w' L') : Kept16 T w0 w' (L ++ L') R p c := by
  have g : w.grownBy w' none := O.tch.grown (fun _ h => h.elim)
  refine h.move ⟨O.tch.mono (fun _ h _ => h.elim), ?_, ?_, ?_⟩
  · intro e he
    rcases List.mem_append.1 he with he | he
    · exact (h.own e he).grown g (by simp)
    · exact O.blk e he
  · intro e he
    rcases List.mem_append.1 he with he | he
    · exact .inr ⟨e, he, rfl⟩
    · exact .inl ((O.ok e he).resolve_right id)
  · refine List.pairwise_append.2 ⟨h.nodup, O.nodup, fun d hd e he e1 => ?_⟩
    have := (h.own d hd).lt; have := (O.ok e he).resolve_right id
    omega
theorem Kept16.tail {T : TypeId} {e : Nat × List Value × TypeId} (h : Kept16 T w0 w (e :: L) R p c) : Kept16 T w0 w L R p c := h.move h.O.tail
theorem Kept16.bare {T : TypeId} (h : Kept16 T w0 w L R p c) : Kept16 T w0 w [] R p c := h.move h.O.forget
end

end Go.Proofs.YtdhchehagfmjcaaGreatDoor
