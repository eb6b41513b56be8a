/- Walk: nunciolaw16.BisectWants. -/
import Derived.Test.YtdhchehagfmjcaaGreatDoorBq
namespace Go.Proofs.YtdhchehagfmjcaaGreatDoor
open Go.RowKit
set_option maxRecDepth 100000

section
variable {P : Program} {o : Oper} {a : Act} {w0 w : World} {K : Act → World → Prop} {Q : Exit → Act → World → Prop} {F : Nat → Prop} {L : List (Nat × List Value × TypeId)}
/-- behind a step that writes the first block, which is forgotten -/
theorem OwF.less1 {g : Nat} {cs : List Value} {T : TypeId} {w2 : World} (O : OwF (fun _ => False) w0 w ((g, cs, T) :: L)) (t : Tch (fun b => b = g) w w2) (hg : w0.heap.size ≤ g) : OwF (fun _ => False) w0 w2 L :=
  O.tail.callT t (fun b hb hl => by omega) (fun e he => fun h => (List.rel_of_pairwise_cons O.nodup he) h.symm)
/-- an empty slice that is not nil -/
theorem wp_of_slice0 (t : TypeId) (ho : o.op = .buildSlice t 0 #[]) (e : TypeId) (z : Value) (size : Nat) (ht : P.underlying t = some (.slice e)) (hi : (P.info? e).map (fun i => (i.zero, i.size)) = some (some z, size))
    (O : OwF F w0 w L) (h : ∀ b w2, w.grownBy w2 none → OwF F w0 w2 ((b, [], e) :: L) → K (a.put o.dst (.slice (some ⟨b, 0, none⟩) 0 0)) w2) : o.wp P a w K Q := by
  cases hq : P.info? e with
  | none => simp [hq] at hi
  | some i =>
    have hi' : i.zero = some z ∧ i.size = size := by simpa [hq] using hi
    have hr := run_buildSlice_all (P := P) w t e i z size ht hq hi'.1 hi'.2 [] (by simp) (by simp)
    have hr2 : (Instr.buildSlice t 0 #[]).run P w = .ok (.slice (some ⟨w.heap.size, 0, none⟩) 0 0) (w.alloc (.cells #[] e)) := by simpa [flatCells] using hr
    unfold Oper.wp execOp
    simp only [ho, List.map_toArray, List.map_nil, Sem.run_bind, hr2, Result.andThen_ok]
    exact h _ _ (World.grownBy_alloc w _ none) (O.new (Blk.new w [] e) (World.grownBy_alloc w _ none))
theorem SRow.rds {w : World} {e : TypeId} {k n : Nat} {v : Value} {xs : List Value} (h : SRow w e k v n xs) : RdS w.heap.size w v n k xs := by
  obtain ⟨a, c, rfl, h1, h2⟩ := h.shape
  refine ⟨a, c, rfl, h1, h2, h.len, ?_⟩
  by_cases h0 : n = 0
  · exact .inl h0
  · obtain ⟨g, o, c2, e2, _, _, hg, hr⟩ := h.at_ (by omega)
    exact .inr ⟨g, o, (Value.slice.inj e2).1, hg, hr⟩
theorem src_lights {w : World} {B : Nat} {v : Value} {xs : List LtR} (h : RdS B w v xs.length 200 (ltsCells xs)) (h1 : ∀ u ∈ ltsCells xs, u.oneCell' = true) : Src Tryz.prog 200 70 v xs.length (ltsCells xs) w := by
  obtain ⟨ao, c, rfl, hc, hm, hl, h0⟩ := h
  rcases ao with _ | ad
  · have hn : xs.length = 0 := by
      rcases h0 with h0 | ⟨g, o, e, _⟩
      · exact h0
      · cases e
    have hx := List.eq_nil_of_length_eq_zero hn
    subst hx
    exact Src.ofNil _ Tryz.underlying70 c
  · refine Src.ofSlice _ Tryz.underlying70 ad _ c _ hl (fun j u hj => ?_) h1
    rcases h0 with h0 | ⟨g, o, e, _, hr⟩
    · have hx := List.eq_nil_of_length_eq_zero h0
      subst hx
      simp [ltsCells] at hj
    · injection e with e
      subst e
      rw [addr_add]
      exact hr j u hj
end
set_option maxHeartbeats 4000000 in
theorem BisectWants_any (v : Value) (xs : List LtR) (sv : Value) (s : List ActD) (z : LtR) (lz : LightD) (w0 : World) (hx : Came w0 v xs) (hs : RdS w0.heap.size w0 sv s.length 4 (actsCells s)) (hsw : ∀ a ∈ s, a.wf) (hz : z.of w0.heap.size w0 lz) (hlz : lz.wf) (hzc : lz.header.chain.size ≤ 140737488351232) (hbig : xs.length * 312 ≤ 140737488351232) (hR : RowAt w0 1 0 (wCells rootsL)) :
    Calls Tryz.prog 11 #[v, sv, .agg z.cells.toArray] w0 fun e w' => e = .returned (.bool true) ∧ w0.grownBy w' none := by
  have O := OwF.start (fun _ => False) w0
  have CA := Lib.hid (fun w (g : w0.grownBy w none) => alive16_ok w (hR.grown g (by simp)))
  have HXA := Lib.hid (fun k hk => lts_at hx.row hx.wf k hk)
  have HX := Lib.hid hx; have HR := Lib.hid hR
  have CG := Lib.hid (fun (a : ActD) (ha : a.wf) (z : Int) w (g : w0.grownBy w none) => given_ok a v xs z w (hx.row.grown g) hx.wf ha)
  have HSA := Lib.hid (fun k hk => acts_at hs k hk)
  have HSW := Lib.hid hsw
  have COP := Lib.hid (fun w => options_ok w)
  have HSRC := Lib.hid (fun w (g : w0.grownBy w none) => src_lights (hx.row.grown g) (ltsCells_one xs))
  have ZW := Lib.hid (hz.wf hlz); have HZ := Lib.hid hz; have HZL := Lib.hid (show lz.wf ∧ lz.header.chain.size ≤ 140737488351232 from ⟨hlz, hzc⟩)
  have HXW := Lib.hid hx.wf
  have CF := Lib.hid (fun (v' : Value) (w : World) (h : RdS w.heap.size w v' (xs ++ [z]).length 200 (ltsCells (xs ++ [z]))) => few_ok v' (xs ++ [z]) w h (fun x hm => by
    rcases List.mem_append.1 hm with hm | hm
    · exact HXW.out x hm
    · rw [List.mem_singleton.1 hm]; exact ZW.out))
  obtain ⟨ao, cp, rfl, hle, hcm, _, _⟩ := hx.row
  unfold maxLen at hcm
  obtain ⟨N, hN⟩ : ∃ n, xs.length = n := ⟨_, rfl⟩
  rw [hN] at hle CG
  rw [hN]
  have HN := Lib.hid hN
  obtain ⟨bo, dp, rfl, hle2, hcm2, _, _⟩ := hs
  unfold maxLen at hcm2
  obtain ⟨M, hM⟩ : ∃ n, s.length = n := ⟨_, rfl⟩
  rw [hM] at hle2
  rw [hM]
  have HM := Lib.hid hM
  rw [hN] at hbig HSRC
  have HBIG := Lib.hid hbig
  obtain ⟨q, hq⟩ : ∃ q, (decide ((xs ++ [z]).length ≤ 14) && (xs ++ [z]).all fewLt) = q := ⟨_, rfl⟩
  rw [hq] at CF
  have HFIT : Hid (q = true → (∀ x ∈ xs, ∃ l, x.of w0.heap.size w0 l ∧ l.fit) ∧ lz.fit) := Lib.hid (fun h => by
    rw [h, Bool.and_eq_true, List.all_append, Bool.and_eq_true] at hq
    refine ⟨HX.out.fit hq.2.1, ?_⟩
    have h2 := hq.2.2
    simp only [List.all_cons, List.all_nil, Bool.and_true] at h2
    obtain ⟨k1, k2, k3⟩ := (few_lens HZ.out).1 h2
    exact ⟨HZL.out.1, k3, k1, k2, HZL.out.2⟩)
  clear hx hsw hR hN hM hq hz hlz hzc hbig
  go_enter Tryz.func11, Tryz.ntmps11
  go_upto_region 1 with (first | ((with_reducible refine @wpList_at _ _ _ _ _ _ _ (.box 31 (.tmp 2)) rfl ?_); refine @wpList_of_box _ _ _ _ _ _ _ _ _ _ 31 (.tmp 2) rfl z.cells rfl O rfl ?_; clear O; intro bz w O))
  go_cut [7] from 17 to 23 (fun s7 w' => s7 = .bool q ∧ OwF (fun _ => False) w0 w' [(bz, z.cells, 31)])
  case first =>
    replace O := O.drew
    refine wp_region_J (rdf [(3, bz, 0, z.cells)]) [0, 2, 4, 5, 6] (by kernel_rfl) (RdA.cons (O.row_of (g := bz) (T := 31) (by simp)) RdA.nil) (fun hH => ?_)
    refine jp 1 ((.slice ao N cp)) (Still.all hH) ?_
    simp only [Act.put, jq1, jq2, jq3, jq4, jq5, jq6]
    refine jr 0 3 ((.agg (z.cells).toArray)) rfl rfl (yieldsIf_load_mid (by rfl) 31 _ rfl bz 0 rfl z.cells _ (fun W h => h) Tryz.underlying31 rfl (sizeLt _ ZW.out)) (Still.all hH) ?_
    simp only [Act.put, jq1, jq2, jq3, jq4, jq5, jq6]
    refine wpAnyJ_ready (rs := [0, 4]) (by kernel_rfl) (by simp) ?_
    refine AllJ.keep rfl (by rfl) (by rfl) (fun K hK => ?_) (AllJ.keep rfl (by rfl) (by rfl) (fun K hK => ?_) (AllJ.nil))
    · refine wp_of_slice0 70 rfl 31 _ 200 Tryz.underlying70 light_inf2 O ?_
      clear O
      intro be u g1 O
      simp only [Act.put, jq1, jq3, jq4, jq5, jq6]
      refine hK.out _ _ (RdA.grown hH g1) ?_
      replace hH := RdA.grown hH g1
      clear hK K
      clear g1
      refine wpAnyJ_ready (rs := [2, 4]) (by kernel_rfl) (by simp) ?_
      refine AllJ.keep rfl (by rfl) (by rfl) (fun K hK => ?_) (AllJ.keep rfl (by rfl) (by rfl) (fun K hK => ?_) (AllJ.nil))
      · have hbe := O.at_ 0 rfl
        have hbl := (O.lie 0 rfl).resolve_right id
        have hbz : bz ≠ be := O.ne (i := 1) (j := 0) rfl rfl (by decide)
        have hzl := (O.at_ 1 rfl).lt
        have hts := O.tch.size
        refine wp_append_srow _ _ _ 70 70 rfl 31 (.agg ZLt0.toArray) 200 312 Tryz.underlying70 light_inf zlt_size (.slice (some ⟨be, 0, none⟩) 0 0) 0 [] rfl ⟨rfl, .inr ⟨be, 0, 0, [], rfl, hbe, Nat.le_refl _, Nat.zero_le _, by simp, rfl⟩⟩ (.slice ao N cp) N (ltsCells xs) rfl (HSRC.out _ (O.tch.grown (fun _ h => h.elim))) (by unfold maxLen; have := HBIG.out; omega) (by have := HBIG.out; omega) ?_
        intro v1 u1 hsr hg1 ho1
        rw [Nat.zero_add, List.nil_append] at hsr
        have t1 := Tch.of_grown1 (F := fun b => b = be) (g := be) hg1 rfl
        have HV1 := Lib.hid (show ∀ b, v1.ownBlock = some b → w0.heap.size ≤ b ∧ b ≠ bz from fun b hb => by
          rcases ho1 with e | e
          · rw [hb] at e; injection e with e; subst e; exact ⟨hbl, fun e => hbz e.symm⟩
          · rw [hb] at e; injection e with e; subst e; exact ⟨hts, fun e => by rw [e] at hzl; omega⟩)
        replace O := O.less1 t1 hbl
        have HSR := Lib.hid hsr
        have hH1 := RdA.tch hH t1 (by intro e he; simp only [List.mem_cons, List.not_mem_nil, or_false] at he; subst he; exact hbz)
        clear hsr hg1 ho1 hbe hbl hbz hzl hts
        simp only [Act.put, jq1, jq2, jq3, jq4, jq5, jq6]
        refine hK.out _ _ hH1 ?_
        replace hH := hH1
        clear hK K hH1 t1
        refine wpAnyJ_ready (rs := [4]) (by kernel_rfl) (by simp) ?_
        refine AllJ.keep rfl (by rfl) (by rfl) (fun K hK => ?_) (AllJ.nil)
        refine wp_of_slice1 70 _ rfl z.cells rfl 31 _ 200 Tryz.underlying70 light_inf2 (z.cells_length ZW.out) (by decide) O ?_
        clear O
        intro b1 u g1 O
        replace HSR := Lib.hid (HSR.out.grown g1)
        simp only [Act.put, jq1, jq2, jq3, jq4, jq5, jq6]
        refine hK.out _ _ (RdA.grown hH g1) ?_
        replace hH := RdA.grown hH g1
        clear hK K
        clear g1
        refine wpAnyJ_ready (rs := [5]) (by kernel_rfl) (by simp) ?_
        refine AllJ.keep rfl (by rfl) (by rfl) (fun K hK => ?_) (AllJ.nil)
        have hb1 := (O.at_ 0 rfl).row
        refine wp_append_srow _ _ _ 70 70 rfl 31 (.agg ZLt0.toArray) 200 312 Tryz.underlying70 light_inf zlt_size v1 N (ltsCells xs) rfl HSR.out (.slice (some ⟨b1, 0, none⟩) 1 1) 1 z.cells rfl (Src.ofSlice _ Tryz.underlying70 _ 1 1 z.cells (by rw [z.cells_length ZW.out]) (fun j u hj => by rw [addr_add]; exact hb1 j u hj) (LtR_one z)) (by unfold maxLen; have := HBIG.out; omega) (by have := HBIG.out; omega) ?_
        intro v2 u2 hsr2 hg2 ho2
        have t2 : Tch (fun b => v1.ownBlock = some b) _ u2 := ⟨hg2.os, hg2.tape, hg2.output, hg2.size, fun k hk hf => hg2.block k hk (fun e2 => hf e2.symm)⟩
        replace O := (O.sub (L' := [(bz, z.cells, 31)]) (by simp)).callT t2 (fun b hb hl => by have := (HV1.out b hb).1; omega) (by intro e he hb; simp only [List.mem_cons, List.not_mem_nil, or_false] at he; subst he; exact (HV1.out _ hb).2 rfl)
        have hr2 : RdS u2.heap.size u2 v2 (xs ++ [z]).length 200 (ltsCells (xs ++ [z])) := by
          have h := hsr2.rds
          rw [show (xs ++ [z]).length = N + 1 by rw [List.length_append, HN.out]; rfl, show ltsCells (xs ++ [z]) = ltsCells xs ++ z.cells by simp [ltsCells]]
          exact h
        have CFF := Lib.hid (CF.out v2 u2 hr2)
        have hH2 := RdA.tch hH t2 (by intro e he hb; simp only [List.mem_cons, List.not_mem_nil, or_false] at he; subst he; exact (HV1.out _ hb).2 rfl)
        clear hr2 hsr2 hg2 ho2 hb1
        simp only [Act.put, jq1, jq2, jq3, jq4, jq5, jq6]
        refine hK.out _ _ hH2 ?_
        replace hH := hH2
        clear hK K hH2 t2
        refine wpAnyJ_ready (rs := [6]) (by kernel_rfl) (by simp) ?_
        refine AllJ.keep rfl (by rfl) (by rfl) (fun K hK => ?_) (AllJ.nil)
        refine wp_call 32 _ _ (by rfl) (enters Tryz.func32 (by kernel_rfl) rfl) (by rfl) (CFF.out) ?_
        rintro e u ⟨rfl, g1⟩
        refine ⟨_, rfl, ?_⟩
        replace O := O.call g1
        simp only [Act.put, jq1, jq2, jq3, jq4, jq5, jq6]
        refine hK.out _ _ (RdA.grown hH g1) ?_
        replace hH := RdA.grown hH g1
        clear hK K
        clear g1
        refine jp 7 ((.bool q)) (Still.all hH) ?_
        simp only [Act.put, jq1, jq2, jq3, jq4, jq5, jq6]
        refine wpAnyJ_done (by kernel_rfl) ?_ _
        go_wp2
        go_meet
        case rel => exact ⟨rfl, O⟩
      · refine wp_of_slice1 70 _ rfl z.cells rfl 31 _ 200 Tryz.underlying70 light_inf2 (z.cells_length ZW.out) (by decide) O ?_
        clear O
        intro b1 u g1 O
        simp only [Act.put, jq1, jq2, jq3, jq4, jq5, jq6]
        refine hK.out _ _ (RdA.grown hH g1) ?_
        replace hH := RdA.grown hH g1
        clear hK K
        clear g1
        refine wpAnyJ_ready (rs := [2]) (by kernel_rfl) (by simp) ?_
        refine AllJ.keep rfl (by rfl) (by rfl) (fun K hK => ?_) (AllJ.nil)
        have hbe := O.at_ 1 rfl
        have hbl := (O.lie 1 rfl).resolve_right id
        have hbz : bz ≠ be := O.ne (i := 2) (j := 1) rfl rfl (by decide)
        have hzl := (O.at_ 2 rfl).lt
        have hts := O.tch.size
        refine wp_append_srow _ _ _ 70 70 rfl 31 (.agg ZLt0.toArray) 200 312 Tryz.underlying70 light_inf zlt_size (.slice (some ⟨be, 0, none⟩) 0 0) 0 [] rfl ⟨rfl, .inr ⟨be, 0, 0, [], rfl, hbe, Nat.le_refl _, Nat.zero_le _, by simp, rfl⟩⟩ (.slice ao N cp) N (ltsCells xs) rfl (HSRC.out _ (O.tch.grown (fun _ h => h.elim))) (by unfold maxLen; have := HBIG.out; omega) (by have := HBIG.out; omega) ?_
        intro v1 u1 hsr hg1 ho1
        rw [Nat.zero_add, List.nil_append] at hsr
        have t1 := Tch.of_grown1 (F := fun b => b = be) (g := be) hg1 rfl
        have HV1 := Lib.hid (show ∀ b, v1.ownBlock = some b → w0.heap.size ≤ b ∧ b ≠ bz from fun b hb => by
          rcases ho1 with e | e
          · rw [hb] at e; injection e with e; subst e; exact ⟨hbl, fun e => hbz e.symm⟩
          · rw [hb] at e; injection e with e; subst e; exact ⟨hts, fun e => by rw [e] at hzl; omega⟩)
        replace O := O.perm (List.Perm.swap _ _ _)
        replace O := O.less1 t1 hbl
        have HSR := Lib.hid hsr
        have hH1 := RdA.tch hH t1 (by intro e he; simp only [List.mem_cons, List.not_mem_nil, or_false] at he; subst he; exact hbz)
        clear hsr hg1 ho1 hbe hbl hbz hzl hts
        simp only [Act.put, jq1, jq2, jq3, jq4, jq5, jq6]
        refine hK.out _ _ hH1 ?_
        replace hH := hH1
        clear hK K hH1 t1
        refine wpAnyJ_ready (rs := [5]) (by kernel_rfl) (by simp) ?_
        refine AllJ.keep rfl (by rfl) (by rfl) (fun K hK => ?_) (AllJ.nil)
        have hb1 := (O.at_ 0 rfl).row
        refine wp_append_srow _ _ _ 70 70 rfl 31 (.agg ZLt0.toArray) 200 312 Tryz.underlying70 light_inf zlt_size v1 N (ltsCells xs) rfl HSR.out (.slice (some ⟨b1, 0, none⟩) 1 1) 1 z.cells rfl (Src.ofSlice _ Tryz.underlying70 _ 1 1 z.cells (by rw [z.cells_length ZW.out]) (fun j u hj => by rw [addr_add]; exact hb1 j u hj) (LtR_one z)) (by unfold maxLen; have := HBIG.out; omega) (by have := HBIG.out; omega) ?_
        intro v2 u2 hsr2 hg2 ho2
        have t2 : Tch (fun b => v1.ownBlock = some b) _ u2 := ⟨hg2.os, hg2.tape, hg2.output, hg2.size, fun k hk hf => hg2.block k hk (fun e2 => hf e2.symm)⟩
        replace O := (O.sub (L' := [(bz, z.cells, 31)]) (by simp)).callT t2 (fun b hb hl => by have := (HV1.out b hb).1; omega) (by intro e he hb; simp only [List.mem_cons, List.not_mem_nil, or_false] at he; subst he; exact (HV1.out _ hb).2 rfl)
        have hr2 : RdS u2.heap.size u2 v2 (xs ++ [z]).length 200 (ltsCells (xs ++ [z])) := by
          have h := hsr2.rds
          rw [show (xs ++ [z]).length = N + 1 by rw [List.length_append, HN.out]; rfl, show ltsCells (xs ++ [z]) = ltsCells xs ++ z.cells by simp [ltsCells]]
          exact h
        have CFF := Lib.hid (CF.out v2 u2 hr2)
        have hH2 := RdA.tch hH t2 (by intro e he hb; simp only [List.mem_cons, List.not_mem_nil, or_false] at he; subst he; exact (HV1.out _ hb).2 rfl)
        clear hr2 hsr2 hg2 ho2 hb1
        simp only [Act.put, jq1, jq2, jq3, jq4, jq5, jq6]
        refine hK.out _ _ hH2 ?_
        replace hH := hH2
        clear hK K hH2 t2
        refine wpAnyJ_ready (rs := [6]) (by kernel_rfl) (by simp) ?_
        refine AllJ.keep rfl (by rfl) (by rfl) (fun K hK => ?_) (AllJ.nil)
        refine wp_call 32 _ _ (by rfl) (enters Tryz.func32 (by kernel_rfl) rfl) (by rfl) (CFF.out) ?_
        rintro e u ⟨rfl, g1⟩
        refine ⟨_, rfl, ?_⟩
        replace O := O.call g1
        simp only [Act.put, jq1, jq2, jq3, jq4, jq5, jq6]
        refine hK.out _ _ (RdA.grown hH g1) ?_
        replace hH := RdA.grown hH g1
        clear hK K
        clear g1
        refine jp 7 ((.bool q)) (Still.all hH) ?_
        simp only [Act.put, jq1, jq2, jq3, jq4, jq5, jq6]
        refine wpAnyJ_done (by kernel_rfl) ?_ _
        go_wp2
        go_meet
        case rel => exact ⟨rfl, O⟩
    · refine wp_of_slice1 70 _ rfl z.cells rfl 31 _ 200 Tryz.underlying70 light_inf2 (z.cells_length ZW.out) (by decide) O ?_
      clear O
      intro b1 u g1 O
      simp only [Act.put, jq1, jq2, jq3, jq4, jq5, jq6]
      refine hK.out _ _ (RdA.grown hH g1) ?_
      replace hH := RdA.grown hH g1
      clear hK K
      clear g1
      refine wpAnyJ_ready (rs := [0]) (by kernel_rfl) (by simp) ?_
      refine AllJ.keep rfl (by rfl) (by rfl) (fun K hK => ?_) (AllJ.nil)
      refine wp_of_slice0 70 rfl 31 _ 200 Tryz.underlying70 light_inf2 O ?_
      clear O
      intro be u g1 O
      simp only [Act.put, jq1, jq4]
      refine hK.out _ _ (RdA.grown hH g1) ?_
      replace hH := RdA.grown hH g1
      clear hK K
      clear g1
      refine wpAnyJ_ready (rs := [2]) (by kernel_rfl) (by simp) ?_
      refine AllJ.keep rfl (by rfl) (by rfl) (fun K hK => ?_) (AllJ.nil)
      have hbe := O.at_ 0 rfl
      have hbl := (O.lie 0 rfl).resolve_right id
      have hbz : bz ≠ be := O.ne (i := 2) (j := 0) rfl rfl (by decide)
      have hzl := (O.at_ 2 rfl).lt
      have hts := O.tch.size
      refine wp_append_srow _ _ _ 70 70 rfl 31 (.agg ZLt0.toArray) 200 312 Tryz.underlying70 light_inf zlt_size (.slice (some ⟨be, 0, none⟩) 0 0) 0 [] rfl ⟨rfl, .inr ⟨be, 0, 0, [], rfl, hbe, Nat.le_refl _, Nat.zero_le _, by simp, rfl⟩⟩ (.slice ao N cp) N (ltsCells xs) rfl (HSRC.out _ (O.tch.grown (fun _ h => h.elim))) (by unfold maxLen; have := HBIG.out; omega) (by have := HBIG.out; omega) ?_
      intro v1 u1 hsr hg1 ho1
      rw [Nat.zero_add, List.nil_append] at hsr
      have t1 := Tch.of_grown1 (F := fun b => b = be) (g := be) hg1 rfl
      have HV1 := Lib.hid (show ∀ b, v1.ownBlock = some b → w0.heap.size ≤ b ∧ b ≠ bz from fun b hb => by
        rcases ho1 with e | e
        · rw [hb] at e; injection e with e; subst e; exact ⟨hbl, fun e => hbz e.symm⟩
        · rw [hb] at e; injection e with e; subst e; exact ⟨hts, fun e => by rw [e] at hzl; omega⟩)
      replace O := O.less1 t1 hbl
      have HSR := Lib.hid hsr
      have hH1 := RdA.tch hH t1 (by intro e he; simp only [List.mem_cons, List.not_mem_nil, or_false] at he; subst he; exact hbz)
      clear hsr hg1 ho1 hbe hbl hbz hzl hts
      simp only [Act.put, jq1, jq3, jq4, jq5, jq6]
      refine hK.out _ _ hH1 ?_
      replace hH := hH1
      clear hK K hH1 t1
      refine wpAnyJ_ready (rs := [5]) (by kernel_rfl) (by simp) ?_
      refine AllJ.keep rfl (by rfl) (by rfl) (fun K hK => ?_) (AllJ.nil)
      have hb1 := (O.at_ 0 rfl).row
      refine wp_append_srow _ _ _ 70 70 rfl 31 (.agg ZLt0.toArray) 200 312 Tryz.underlying70 light_inf zlt_size v1 N (ltsCells xs) rfl HSR.out (.slice (some ⟨b1, 0, none⟩) 1 1) 1 z.cells rfl (Src.ofSlice _ Tryz.underlying70 _ 1 1 z.cells (by rw [z.cells_length ZW.out]) (fun j u hj => by rw [addr_add]; exact hb1 j u hj) (LtR_one z)) (by unfold maxLen; have := HBIG.out; omega) (by have := HBIG.out; omega) ?_
      intro v2 u2 hsr2 hg2 ho2
      have t2 : Tch (fun b => v1.ownBlock = some b) _ u2 := ⟨hg2.os, hg2.tape, hg2.output, hg2.size, fun k hk hf => hg2.block k hk (fun e2 => hf e2.symm)⟩
      replace O := (O.sub (L' := [(bz, z.cells, 31)]) (by simp)).callT t2 (fun b hb hl => by have := (HV1.out b hb).1; omega) (by intro e he hb; simp only [List.mem_cons, List.not_mem_nil, or_false] at he; subst he; exact (HV1.out _ hb).2 rfl)
      have hr2 : RdS u2.heap.size u2 v2 (xs ++ [z]).length 200 (ltsCells (xs ++ [z])) := by
        have h := hsr2.rds
        rw [show (xs ++ [z]).length = N + 1 by rw [List.length_append, HN.out]; rfl, show ltsCells (xs ++ [z]) = ltsCells xs ++ z.cells by simp [ltsCells]]
        exact h
      have CFF := Lib.hid (CF.out v2 u2 hr2)
      have hH2 := RdA.tch hH t2 (by intro e he hb; simp only [List.mem_cons, List.not_mem_nil, or_false] at he; subst he; exact (HV1.out _ hb).2 rfl)
      clear hr2 hsr2 hg2 ho2 hb1
      simp only [Act.put, jq1, jq2, jq3, jq4, jq5, jq6]
      refine hK.out _ _ hH2 ?_
      replace hH := hH2
      clear hK K hH2 t2
      refine wpAnyJ_ready (rs := [6]) (by kernel_rfl) (by simp) ?_
      refine AllJ.keep rfl (by rfl) (by rfl) (fun K hK => ?_) (AllJ.nil)
      refine wp_call 32 _ _ (by rfl) (enters Tryz.func32 (by kernel_rfl) rfl) (by rfl) (CFF.out) ?_
      rintro e u ⟨rfl, g1⟩
      refine ⟨_, rfl, ?_⟩
      replace O := O.call g1
      simp only [Act.put, jq1, jq2, jq3, jq4, jq5, jq6]
      refine hK.out _ _ (RdA.grown hH g1) ?_
      replace hH := RdA.grown hH g1
      clear hK K
      clear g1
      refine jp 7 ((.bool q)) (Still.all hH) ?_
      simp only [Act.put, jq1, jq2, jq3, jq4, jq5, jq6]
      refine wpAnyJ_done (by kernel_rfl) ?_ _
      go_wp2
      go_meet
      case rel => exact ⟨rfl, O⟩
  clear O
  obtain ⟨rfl, O⟩ := hcut
  cases q with
  | false =>
    go_wp2_with fail
    refine (CA.out _ (O.tch.grown (fun _ h => h.elim))).mono ?_
    rintro e w ⟨rfl, g⟩
    replace O := O.call g
    clear g
    go_wp2_with fail
    go_ret
    exact ⟨rfl, O.tch.grown (fun _ h => h.elim)⟩
  | true =>
  have HZF := Lib.hid (HFIT.out (by trivial)).2
  replace HFIT := Lib.hid (HFIT.out (by trivial)).1
  rcases Nat.eq_zero_or_pos N with hN0 | hN0
  · subst hN0
    go_wp2_with fail
    refine (CA.out _ (O.tch.grown (fun _ h => h.elim))).mono ?_
    rintro e w ⟨rfl, g⟩
    replace O := O.call g
    clear g
    go_wp2_with fail
    go_ret
    exact ⟨rfl, O.tch.grown (fun _ h => h.elim)⟩
  rcases Nat.eq_zero_or_pos M with hM0 | hM0
  · subst hM0
    have hN1 : ¬ (N : Int) = 0 := by omega
    have hN2 : ¬ N = 0 := by omega
    have hN3 : ((N : Int) == 0) = false := by simpa using hN2
    clear hN0
    go_wp2_with fail
    refine (CA.out _ (O.tch.grown (fun _ h => h.elim))).mono ?_
    rintro e w ⟨rfl, g⟩
    replace O := O.call g
    clear g
    go_wp2_with fail
    go_ret
    exact ⟨rfl, O.tch.grown (fun _ h => h.elim)⟩
  have hN1 : ¬ (N : Int) = 0 := by omega
  have hN2 : ¬ N = 0 := by omega
  have hM1 : ¬ (M : Int) = 0 := by omega
  have hM2 : ¬ M = 0 := by omega
  have hN3 : ((N : Int) == 0) = false := by simpa using hN2
  have hM3 : ((M : Int) == 0) = false := by simpa using hM2
  have hkx : 0 < xs.length := by rw [HN.out]; exact hN0
  obtain ⟨g, o, c, hv, hgB, hrow⟩ := HXA.out 0 hkx
  have e1 := (Value.slice.inj hv).1
  subst e1
  rw [Nat.zero_mul, Nat.add_zero] at hrow
  obtain ⟨x, hx0⟩ : ∃ x, xs[0] = x := ⟨_, rfl⟩
  rw [hx0] at hrow
  obtain ⟨l0, hof, hfit⟩ := HFIT.out x (hx0 ▸ List.getElem_mem hkx)
  have XW := Lib.hid (hof.wf hfit.wf)
  have FX := Lib.hid hrow
  have hks : 0 < s.length := by rw [HM.out]; exact hM0
  obtain ⟨g2, o2, c2, hv2, hgB2, hrow2⟩ := HSA.out 0 hks
  have e2 := (Value.slice.inj hv2).1
  subst e2
  rw [Nat.zero_mul, Nat.add_zero] at hrow2
  obtain ⟨a0, ha0⟩ : ∃ x, s[0] = x := ⟨_, rfl⟩
  rw [ha0] at hrow2
  have ha0w : a0.wf := HSW.out a0 (ha0 ▸ List.getElem_mem hks)
  have F0 := Lib.hid (RowAt.one (hrow2 3 _ rfl))
  have CN := Lib.hid (fun w (O : OwF (fun _ => False) w0 w [(bz, z.cells, 31)]) => kNew x l0 a0.now opt16 hof hfit ha0w.now opt16_wf HR.out O)
  have HS0 := Lib.hid (show (BcD.new l0 opt16).store.length + (BcD.new l0 opt16).pend.length ≤ 1 from Nat.le_refl _)
  obtain ⟨V, hV⟩ : ∃ z, bnewE l0 a0.now opt16 = z := ⟨_, rfl⟩
  rw [hV] at CN
  have HWI : Hid (V = 0 → WInv (BcD.new l0 opt16) 0) := Lib.hid (fun h => new_winv (bnew_hOk (hV.trans h)) _)
  have PC := Lib.hid (show w0.cell? ⟨g, o, none⟩ = some (.string x.header.chain) from hrow 0 _ rfl)
  have HCH := Lib.hid hof.header
  have hix : ¬ ((N : Int) ≤ 0) := by omega
  have hix2 : ¬ ((M : Int) ≤ 0) := by omega
  clear hrow hrow2 hof hfit ha0w hx0 ha0 hv hv2 hkx hks hV
  go_upto_region 4 with (fail)
  replace O := O.drew
  refine wp_region_J (rdf [(2, g, o, x.cells), (6, g2, (o2 + 3), [(.float .f64 a0.now)])]) [7, 8] (by kernel_rfl) (RdA.cons (FX.out.grown (O.tch.grown (fun _ h => h.elim)) (by simp)) (RdA.cons (F0.out.grown (O.tch.grown (fun _ h => h.elim)) (by simp)) RdA.nil)) (fun hH => ?_)
  refine jp 0 ((.slice (some ⟨g, o, none⟩) N cp)) (Still.all hH) ?_
  simp only [Act.put, jq1, jq3, jq4, jq5, jq6]
  refine jp 1 ((.pointer (some ⟨g, o, none⟩))) (Still.all hH) ?_
  simp only [Act.put, jq1, jq2, jq3, jq4, jq5, jq6]
  refine jr 0 2 ((.agg (x.cells).toArray)) rfl rfl (yieldsIf_load_mid (by rfl) 31 _ rfl g o rfl x.cells _ (fun W h => h) Tryz.underlying31 rfl (sizeLt _ XW.out)) (Still.all hH) ?_
  simp only [Act.put, jq1, jq2, jq3, jq4, jq5, jq6]
  refine jp 3 ((.slice (some ⟨g2, o2, none⟩) M dp)) (Still.all hH) ?_
  simp only [Act.put, jq1, jq2, jq3, jq4, jq5, jq6]
  refine jp 4 ((.pointer (some ⟨g2, o2, none⟩))) (Still.all hH) ?_
  simp only [Act.put, jq1, jq2, jq3, jq4, jq5, jq6]
  refine jp 5 ((.pointer (some ⟨g2, o2 + 3, none⟩))) (Still.all hH) ?_
  simp only [Act.put, jq1, jq2, jq3, jq4, jq5, jq6]
  refine jr 1 6 ((.float .f64 a0.now)) rfl rfl (yields_cell (by rfl) 33 _ rfl g2 (o2 + 3) rfl (.float .f64 a0.now) _ (fun W h => h) Tryz.underlying33 rfl) (Still.all hH) ?_
  simp only [Act.put, jq1, jq2, jq3, jq4, jq5, jq6]
  refine wpAnyJ_ready (rs := [7]) (by kernel_rfl) (by simp) ?_
  refine AllJ.keep rfl (by rfl) (by rfl) (fun K hK => ?_) (AllJ.nil)
  refine wp_call 34 _ _ (by rfl) (enters Tryz.func34 (by kernel_rfl) rfl) (by rfl) (COP.out _) ?_
  rintro e u ⟨rfl, g1⟩
  refine ⟨_, rfl, ?_⟩
  replace O := O.call g1
  simp only [Act.put, jq1, jq2, jq3, jq4, jq5, jq6]
  refine hK.out _ _ (RdA.grown hH g1) ?_
  replace hH := RdA.grown hH g1
  clear hK K
  clear g1
  refine wpAnyJ_ready (rs := [8]) (by kernel_rfl) (by simp) ?_
  refine AllJ.turn rfl (by rfl) (by rfl) (fun K hK => ?_) (AllJ.nil)
  refine wp_call 35 _ _ (by rfl) (enters Tryz.func35 (by kernel_rfl) rfl) (by rfl) (CN.out _ O) ?_
  rintro e u ⟨P, rfl, g1, hN⟩
  refine ⟨_, rfl, ?_⟩
  have HK := Lib.hid hN
  clear hN
  replace O := O.call g1
  clear g1
  simp only [Act.put, jq1, jq2, jq3, jq4, jq5, jq6]
  refine hK.out _ _ (waits_all (by kernel_rfl)) ?_
  clear hK K hH
  refine jp 9 ((.tuple #[P, .int .i64 V])) (Still.none (by kernel_rfl)) ?_
  simp only [Act.put, jq1, jq2, jq3, jq4, jq5, jq6]
  refine jp 10 (P) (Still.none (by kernel_rfl)) ?_
  simp only [Act.put, jq1, jq2, jq3, jq4, jq5, jq6]
  refine jp 11 ((.int .i64 V)) (Still.none (by kernel_rfl)) ?_
  simp only [Act.put, jq1, jq2, jq3, jq4, jq5, jq6]
  refine jp 12 (P) (Still.none (by kernel_rfl)) ?_
  simp only [Act.put, jq1, jq2, jq3, jq4, jq5, jq6]
  refine jp 13 ((.int .i64 V)) (Still.none (by kernel_rfl)) ?_
  simp only [Act.put, jq1, jq2, jq3, jq4, jq5, jq6]
  refine wpAnyJ_done (by kernel_rfl) ?_ _
  clear hix2
  rcases HK.out with ⟨h1, rfl⟩ | ⟨h1, p, rfl, H⟩
  · have d1 : (V != 0) = true := by simpa using h1
    clear h1
    go_wp2_with fail
    refine (CA.out _ (O.tch.grown (fun _ h => h.elim))).mono ?_
    rintro e w ⟨rfl, g⟩
    replace O := O.call g
    clear g
    go_wp2_with fail
    go_ret
    exact ⟨rfl, O.tch.grown (fun _ h => h.elim)⟩
  replace HWI := Lib.hid (HWI.out h1)
  subst h1
  clear O HK CN
  replace H := Lib.hid H
  go_wp2_with fail
  go_loopw [10, 11] (fun gl i wr => ∃ (k : Nat) (c : BcD) (gz : Int), 1 ≤ k ∧ k ≤ 40 ∧ k ≤ M ∧ gl = .int .i64 gz ∧ i = .int .i64 k ∧ Kept16 125 w0 wr [(bz, z.cells, 31)] [] p c ∧ c.store.length + c.pend.length ≤ k ∧ WInv c gz ∧ firstB c.store = l0) (fun _ i _ => 41 - (intOf i).toNat)
  case atStart => exact ⟨1, _, 0, Nat.le_refl _, by omega, hM0, rfl, rfl, H.out, HS0.out, HWI.out, rfl⟩
  case round =>
    clear H HS0 HWI
    obtain ⟨k, c0, gz, hk1, hk40, hkM, rfl, rfl, hH, htot, hwi, hfb⟩ := hrel
    have H := Lib.hid hH; have HT := Lib.hid htot; have HWI := Lib.hid hwi; have HFB := Lib.hid hfb
    clear hH htot hwi hfb
    by_cases hlt : k < M
    case neg =>
      obtain rfl : k = M := by omega
      go_wp2_with fail
      refine (CA.out _ H.out.g).mono ?_
      rintro e w ⟨rfl, g⟩
      replace H := Lib.hid (H.out.grown g)
      clear g
      go_wp2_with fail
      go_ret
      exact ⟨rfl, H.out.g⟩
    by_cases h40 : k < 40
    case neg =>
      obtain rfl : k = 40 := by omega
      go_wp2_with fail
      refine (CA.out _ H.out.g).mono ?_
      rintro e w ⟨rfl, g⟩
      replace H := Lib.hid (H.out.grown g)
      clear g
      go_wp2_with fail
      go_ret
      exact ⟨rfl, H.out.g⟩
    have hks : k < s.length := by rw [HM.out]; exact hlt
    obtain ⟨g3, o3, c3, hv2, hgB2, hrow2⟩ := HSA.out k hks
    have e2 := (Value.slice.inj hv2).1
    injection e2 with e2
    injection e2 with e2a e2b _
    subst e2a e2b
    obtain ⟨a, ha⟩ : ∃ x, s[k] = x := ⟨_, rfl⟩
    rw [ha] at hrow2
    have HAW := Lib.hid (show a.wf from HSW.out a (ha ▸ List.getElem_mem hks))
    have FA := Lib.hid (hrow2.grown H.out.g (by simp))
    have CGa := Lib.hid (CG.out a HAW.out)
    have hix : ¬ ((M : Int) ≤ (k : Int)) := by omega
    clear hrow2 ha hv2 hks
    have O := H.out.O
    have FA := Lib.hid (fun u (t : Tch (fun b => ∃ e ∈ [(bz, z.cells, 31)], e.1 = b) wr u) => t.row FA.out (fun h => by obtain ⟨e, he, e1⟩ := h; have h1 := H.out.new e he; rw [e1] at h1; omega))
    go_upto_region 12 with (first | ((with_reducible refine @wpList_at _ _ _ _ _ _ _ (.load 78 (.tmp 76)) rfl ?_); refine wpList_load_part rfl 78 _ rfl g2 ((o2 + k * 4)) rfl a.cells _ (FA.out _ O.tch) Tryz.underlying78 rfl (sizeAct a) ?_) | ((with_reducible refine @wpList_at _ _ _ _ _ _ _ (.alloc 78) rfl ?_); refine @wpList_of_alloc _ _ _ _ _ _ _ _ _ _ 78 rfl ZAct ZAct_info O rfl ?_; clear O; intro ba w O) | ((with_reducible refine @wpList_at _ _ _ _ _ _ _ (.store 78 (.tmp 12) (.tmp 77)) rfl ?_); refine @wpList_of_store _ _ _ _ _ _ _ _ _ _ 78 (.tmp 12) (.tmp 77) rfl O 0 ba rfl a.cells ZAct _ rfl rfl rfl (ActD_one a) (sizeAct a) rfl ?_; clear O; intro w O; simp only [List.set_cons_zero] at O))
    simp only [Act.put, jq4, jq5, jq6]
    replace H := Lib.hid (H.out.move O)
    go_cut [87] from 64 to 86 (fun s87 w' => ∃ (c1 : BcD) (ok : Bool), s87 = .bool ok ∧ Kept16 125 w0 w' [(ba, a.cells, 78), (bz, z.cells, 31)] [] p c1 ∧ c1.store.length + c1.pend.length ≤ k ∧ WInv c1 (if ok then a.n else gz) ∧ firstB c1.store = l0)
    case first =>
      by_cases c1 : a.kind = 1
      · have d1 : (a.kind == 1) = true := by simpa using c1
        have CGo := Lib.hid (kGoal H.out a.n)
        have HG := Lib.hid (goal_total c0 a.n); have HGW := Lib.hid (goal_winv HWI.out a.n); have HGK := Lib.hid (goal_keeps c0 a.n).2
        go_wp2_with (first | ((with_reducible refine @wpList_at _ _ _ _ _ _ _ (.load 3 (.tmp 78)) rfl ?_); refine @wpList_of_cell _ _ _ _ _ _ _ _ _ _ 3 (.tmp 78) rfl O 0 ba 0 rfl _ _ rfl _ rfl _ Tryz.underlying3 rfl rfl ?_) | ((with_reducible refine @wpList_at _ _ _ _ _ _ _ (.load 3 (.tmp 83)) rfl ?_); refine @wpList_of_cell _ _ _ _ _ _ _ _ _ _ 3 (.tmp 83) rfl O 0 ba 1 rfl _ _ rfl _ rfl _ Tryz.underlying3 rfl rfl ?_))
        refine CGo.out.mono ?_
        rintro e w ⟨rfl, H2⟩
        obtain ⟨E, hE⟩ : ∃ z, (c0.goal a.n).2 = z := ⟨_, rfl⟩
        rw [hE] at HGW ⊢
        clear hE
        by_cases hE0 : E = 0
        · rw [if_pos hE0] at HGW
          subst hE0
          go_wp2_with fail
          go_meet
          case rel => exact ⟨_, true, rfl, H2, Nat.le_trans HG.out HT.out, HGW.out, by rw [HGK.out]; exact HFB.out⟩
        · rw [if_neg hE0] at HGW
          have d2 : (E == 0) = false := by simpa using hE0
          go_wp2_with fail
          go_meet
          case rel => exact ⟨_, false, rfl, H2, Nat.le_trans HG.out HT.out, HGW.out, by rw [HGK.out]; exact HFB.out⟩
      · have d1 : (a.kind == 1) = false := by simpa using c1
        go_wp2_with (first | ((with_reducible refine @wpList_at _ _ _ _ _ _ _ (.load 3 (.tmp 78)) rfl ?_); refine @wpList_of_cell _ _ _ _ _ _ _ _ _ _ 3 (.tmp 78) rfl O 0 ba 0 rfl _ _ rfl _ rfl _ Tryz.underlying3 rfl rfl ?_))
        go_meet
        case rel => exact ⟨c0, false, rfl, H.out, HT.out, HWI.out, HFB.out⟩
    clear O H HT HWI HFB
    obtain ⟨c1, ok, rfl, hH, htot, hwi, hfb⟩ := hcut
    have H := Lib.hid hH; have HT := Lib.hid htot; have HWI := Lib.hid hwi; have HFB := Lib.hid hfb
    have O := hH.O
    clear hH htot hwi hfb
    go_upto_if 87 with (fail)
    go_cut [10] from 64 to 166 (fun s10 w' => wc.grownBy w' none ∧ ∃ g1 : Int, s10 = .int .i64 g1 ∧ WInv c1 g1)
    case first =>
      cases ok with
      | true =>
        go_wp2_with (first | ((with_reducible refine @wpList_at _ _ _ _ _ _ _ (.load 3 (.tmp 88)) rfl ?_); refine @wpList_of_cell _ _ _ _ _ _ _ _ _ _ 3 (.tmp 88) rfl O 0 ba 1 rfl _ _ rfl _ rfl _ Tryz.underlying3 rfl rfl ?_))
        go_meet
        case rel => exact ⟨gb_refl _, a.n, rfl, HWI.out⟩
      | false =>
        go_wp2_with fail
        go_meet
        case rel => exact ⟨gb_refl _, gz, rfl, HWI.out⟩
    clear O HWI
    obtain ⟨hg, g1, rfl, hwi⟩ := hcut
    have HWI := Lib.hid hwi
    replace H := Lib.hid (H.out.grown hg)
    clear hwi hg
    have CW := Lib.hid (fun u (gg : wc.grownBy u none) => kWant (H.out.grown gg))
    have CGw := Lib.hid (fun u (gg : wc.grownBy u none) => CGa.out c1.want u (H.out.g.trans gg))
    have BA := Lib.hid (H.out.own _ (List.mem_cons_self)).row
    have O := OwF.start (fun _ => False) wc
    go_upto_region 14 with (fail)
    go_cut [13, 14] from 64 to 166 (fun s13 s14 w' => ∃ bx y b, s13 = .pointer (some ⟨bx, 0, none⟩) ∧ s14 = .bool b ∧ y.wf ∧ (b = true → y ∈ xs ∧ (a.kind ≠ 2 → y.header.height = c1.want)) ∧ Kept16 125 w0 w' [(ba, a.cells, 78), (bz, z.cells, 31), (bx, y.cells, 31)] [] p c1)
    case first =>
      replace O := O.drew
      refine wp_region_J (rdf [(0, ba, 0, a.cells)]) [3, 4, 8, 9] (by kernel_rfl) (RdA.cons (BA.out.grown (O.tch.grown (fun _ h => h.elim)) (by simp)) RdA.nil) (fun hH => ?_)
      refine jr 0 0 ((.agg (a.cells).toArray)) rfl rfl (yieldsIf_load_mid (by rfl) 78 _ rfl ba 0 rfl a.cells _ (fun W h => h) Tryz.underlying78 rfl (sizeAct a)) (Still.all hH) ?_
      simp only [Act.put, jq1]
      refine jp 1 ((.slice (some ⟨g, o, none⟩) N cp)) (Still.all hH) ?_
      simp only [Act.put, jq1, jq4]
      refine jp 2 ((.pointer (some ⟨p, 0, none⟩))) (Still.all hH) ?_
      simp only [Act.put, jq1, jq3, jq4, jq5, jq6]
      refine wpAnyJ_ready (rs := [3, 8]) (by kernel_rfl) (by simp) ?_
      refine AllJ.keep rfl (by rfl) (by rfl) (fun K hK => ?_) (AllJ.keep rfl (by rfl) (by rfl) (fun K hK => ?_) (AllJ.nil))
      · refine wp_call 39 _ _ (by rfl) (enters Tryz.func39 (by kernel_rfl) rfl) (by rfl) (CW.out _ (O.tch.grown (fun _ h => h.elim))) ?_
        rintro e u ⟨rfl, g1⟩
        refine ⟨_, rfl, ?_⟩
        replace O := O.call g1
        simp only [Act.put, jq1, jq2, jq3, jq4, jq5, jq6]
        refine hK.out _ _ (RdA.grown hH g1) ?_
        replace hH := RdA.grown hH g1
        clear hK K
        clear g1
        refine wpAnyJ_ready (rs := [4, 8]) (by kernel_rfl) (by simp) ?_
        refine AllJ.keep rfl (by rfl) (by rfl) (fun K hK => ?_) (AllJ.keep rfl (by rfl) (by rfl) (fun K hK => ?_) (AllJ.nil))
        · refine wp_call 38 _ _ (by rfl) (enters Tryz.func38 (by kernel_rfl) rfl) (by rfl) (CGw.out _ (O.tch.grown (fun _ h => h.elim))) ?_
          rintro e u ⟨g1, y, b, hyw, rfl, hyb⟩
          refine ⟨_, rfl, ?_⟩
          have YW := Lib.hid hyw; have HYB := Lib.hid hyb
          clear hyw hyb
          replace O := O.call g1
          simp only [Act.put, jq1, jq2, jq3, jq4, jq5, jq6]
          refine hK.out _ _ (RdA.grown hH g1) ?_
          replace hH := RdA.grown hH g1
          clear hK K
          clear g1
          refine jp 5 ((.tuple #[.agg y.cells.toArray, .bool b])) (Still.all hH) ?_
          simp only [Act.put, jq1, jq2, jq3, jq4, jq5, jq6]
          refine jp 6 ((.agg y.cells.toArray)) (Still.all hH) ?_
          simp only [Act.put, jq1, jq2, jq3, jq4, jq5, jq6]
          refine jp 7 ((.bool b)) (Still.all hH) ?_
          simp only [Act.put, jq1, jq2, jq3, jq4, jq5, jq6]
          refine wpAnyJ_ready (rs := [8]) (by kernel_rfl) (by simp) ?_
          refine AllJ.keep rfl (by rfl) (by rfl) (fun K hK => ?_) (AllJ.nil)
          refine wp_of_alloc 31 rfl ZLt0 ZLt0_info O ?_
          clear O
          intro bx u g1 O
          simp only [Act.put, jq1, jq2, jq3, jq4, jq5, jq6]
          refine hK.out _ _ (RdA.grown hH g1) ?_
          replace hH := RdA.grown hH g1
          clear hK K
          clear g1
          refine wpAnyJ_ready (rs := [9]) (by kernel_rfl) (by simp) ?_
          refine AllJ.turn rfl (by rfl) (by rfl) (fun K hK => ?_) (AllJ.nil)
          refine wp_of_store 31 _ _ rfl O 0 bx rfl y.cells ZLt0 _ rfl rfl (LtR.cells_length _ YW.out) (LtR_one _) (sizeLt _ YW.out) ?_
          clear O
          intro u O
          simp only [List.set_cons_zero] at O
          simp only [Act.put, jq1, jq2, jq3]
          refine hK.out _ _ (waits_all (by kernel_rfl)) ?_
          clear hK K hH
          refine jp 10 ((.bool b)) (Still.none (by kernel_rfl)) ?_
          simp only [Act.put, jq1, jq2, jq3, jq4, jq5, jq6]
          refine wpAnyJ_done (by kernel_rfl) ?_ _
          go_wp2
          go_meet
          case rel => exact ⟨bx, y, b, rfl, rfl, YW.out, HYB.out, H.out.joins O⟩
        · refine wp_of_alloc 31 rfl ZLt0 ZLt0_info O ?_
          clear O
          intro bx u g1 O
          simp only [Act.put, jq1, jq2, jq3, jq4, jq5, jq6]
          refine hK.out _ _ (RdA.grown hH g1) ?_
          replace hH := RdA.grown hH g1
          clear hK K
          clear g1
          refine wpAnyJ_ready (rs := [4]) (by kernel_rfl) (by simp) ?_
          refine AllJ.keep rfl (by rfl) (by rfl) (fun K hK => ?_) (AllJ.nil)
          refine wp_call 38 _ _ (by rfl) (enters Tryz.func38 (by kernel_rfl) rfl) (by rfl) (CGw.out _ (O.tch.grown (fun _ h => h.elim))) ?_
          rintro e u ⟨g1, y, b, hyw, rfl, hyb⟩
          refine ⟨_, rfl, ?_⟩
          have YW := Lib.hid hyw; have HYB := Lib.hid hyb
          clear hyw hyb
          replace O := O.call g1
          simp only [Act.put, jq1, jq2, jq3, jq4, jq5, jq6]
          refine hK.out _ _ (RdA.grown hH g1) ?_
          replace hH := RdA.grown hH g1
          clear hK K
          clear g1
          refine jp 5 ((.tuple #[.agg y.cells.toArray, .bool b])) (Still.all hH) ?_
          simp only [Act.put, jq1, jq2, jq3, jq4, jq5, jq6]
          refine jp 6 ((.agg y.cells.toArray)) (Still.all hH) ?_
          simp only [Act.put, jq1, jq2, jq3, jq4, jq5, jq6]
          refine jp 7 ((.bool b)) (Still.all hH) ?_
          simp only [Act.put, jq1, jq2, jq3, jq4, jq5, jq6]
          refine wpAnyJ_ready (rs := [9]) (by kernel_rfl) (by simp) ?_
          refine AllJ.turn rfl (by rfl) (by rfl) (fun K hK => ?_) (AllJ.nil)
          refine wp_of_store 31 _ _ rfl O 0 bx rfl y.cells ZLt0 _ rfl rfl (LtR.cells_length _ YW.out) (LtR_one _) (sizeLt _ YW.out) ?_
          clear O
          intro u O
          simp only [List.set_cons_zero] at O
          simp only [Act.put, jq1, jq2, jq3]
          refine hK.out _ _ (waits_all (by kernel_rfl)) ?_
          clear hK K hH
          refine jp 10 ((.bool b)) (Still.none (by kernel_rfl)) ?_
          simp only [Act.put, jq1, jq2, jq3]
          refine wpAnyJ_done (by kernel_rfl) ?_ _
          go_wp2
          go_meet
          case rel => exact ⟨bx, y, b, rfl, rfl, YW.out, HYB.out, H.out.joins O⟩
      · refine wp_of_alloc 31 rfl ZLt0 ZLt0_info O ?_
        clear O
        intro bx u g1 O
        simp only [Act.put, jq1, jq2, jq3, jq4, jq5, jq6]
        refine hK.out _ _ (RdA.grown hH g1) ?_
        replace hH := RdA.grown hH g1
        clear hK K
        clear g1
        refine wpAnyJ_ready (rs := [3]) (by kernel_rfl) (by simp) ?_
        refine AllJ.keep rfl (by rfl) (by rfl) (fun K hK => ?_) (AllJ.nil)
        refine wp_call 39 _ _ (by rfl) (enters Tryz.func39 (by kernel_rfl) rfl) (by rfl) (CW.out _ (O.tch.grown (fun _ h => h.elim))) ?_
        rintro e u ⟨rfl, g1⟩
        refine ⟨_, rfl, ?_⟩
        replace O := O.call g1
        simp only [Act.put, jq1, jq2, jq3, jq4, jq5, jq6]
        refine hK.out _ _ (RdA.grown hH g1) ?_
        replace hH := RdA.grown hH g1
        clear hK K
        clear g1
        refine wpAnyJ_ready (rs := [4]) (by kernel_rfl) (by simp) ?_
        refine AllJ.keep rfl (by rfl) (by rfl) (fun K hK => ?_) (AllJ.nil)
        refine wp_call 38 _ _ (by rfl) (enters Tryz.func38 (by kernel_rfl) rfl) (by rfl) (CGw.out _ (O.tch.grown (fun _ h => h.elim))) ?_
        rintro e u ⟨g1, y, b, hyw, rfl, hyb⟩
        refine ⟨_, rfl, ?_⟩
        have YW := Lib.hid hyw; have HYB := Lib.hid hyb
        clear hyw hyb
        replace O := O.call g1
        simp only [Act.put, jq1, jq2, jq3, jq4, jq5, jq6]
        refine hK.out _ _ (RdA.grown hH g1) ?_
        replace hH := RdA.grown hH g1
        clear hK K
        clear g1
        refine jp 5 ((.tuple #[.agg y.cells.toArray, .bool b])) (Still.all hH) ?_
        simp only [Act.put, jq1, jq2, jq3, jq4, jq5, jq6]
        refine jp 6 ((.agg y.cells.toArray)) (Still.all hH) ?_
        simp only [Act.put, jq1, jq2, jq3, jq4, jq5, jq6]
        refine jp 7 ((.bool b)) (Still.all hH) ?_
        simp only [Act.put, jq1, jq2, jq3, jq4, jq5, jq6]
        refine wpAnyJ_ready (rs := [9]) (by kernel_rfl) (by simp) ?_
        refine AllJ.turn rfl (by rfl) (by rfl) (fun K hK => ?_) (AllJ.nil)
        refine wp_of_store 31 _ _ rfl O 0 bx rfl y.cells ZLt0 _ rfl rfl (LtR.cells_length _ YW.out) (LtR_one _) (sizeLt _ YW.out) ?_
        clear O
        intro u O
        simp only [List.set_cons_zero] at O
        simp only [Act.put, jq1, jq2, jq3]
        refine hK.out _ _ (waits_all (by kernel_rfl)) ?_
        clear hK K hH
        refine jp 10 ((.bool b)) (Still.none (by kernel_rfl)) ?_
        simp only [Act.put, jq1, jq2, jq3, jq4, jq5, jq6]
        refine wpAnyJ_done (by kernel_rfl) ?_ _
        go_wp2
        go_meet
        case rel => exact ⟨bx, y, b, rfl, rfl, YW.out, HYB.out, H.out.joins O⟩
    clear O H CW CGw BA
    obtain ⟨bx, y, b, rfl, rfl, hyw, hyb, H⟩ := hcut
    have XW := Lib.hid hyw; have HYB := Lib.hid hyb
    have O := H.O
    replace H := Lib.hid H
    clear hyw hyb
    go_upto_region 15 with (fail)
    go_cut [103] from 64 to 102 (fun s103 w' => ∃ r : Bool, s103 = .bool r ∧ (r = true → a.kind = 3 ∧ b = true) ∧ wc.grownBy w' none)
    case first =>
      by_cases c3 : a.kind = 3
      case neg =>
        have d3 : (a.kind == 3) = false := by simpa using c3
        go_wp2_with (first | ((with_reducible refine @wpList_at _ _ _ _ _ _ _ (.load 3 (.tmp 98)) rfl ?_); refine @wpList_of_cell _ _ _ _ _ _ _ _ _ _ 3 (.tmp 98) rfl O 0 ba 0 rfl _ _ rfl _ rfl _ Tryz.underlying3 rfl rfl ?_))
        go_meet
        case rel => exact ⟨false, rfl, (fun h => by cases h), gb_refl _⟩
      have d3 : (a.kind == 3) = true := by simpa using c3
      cases b with
      | false =>
        go_wp2_with (first | ((with_reducible refine @wpList_at _ _ _ _ _ _ _ (.load 3 (.tmp 98)) rfl ?_); refine @wpList_of_cell _ _ _ _ _ _ _ _ _ _ 3 (.tmp 98) rfl O 0 ba 0 rfl _ _ rfl _ rfl _ Tryz.underlying3 rfl rfl ?_))
        go_meet
        case rel => exact ⟨false, rfl, (fun h => by cases h), gb_refl _⟩
      | true =>
        have HC3 := Lib.hid c3
        clear c3
        go_wp2_with (first | ((with_reducible refine @wpList_at _ _ _ _ _ _ _ (.load 3 (.tmp 98)) rfl ?_); refine @wpList_of_cell _ _ _ _ _ _ _ _ _ _ 3 (.tmp 98) rfl O 0 ba 0 rfl _ _ rfl _ rfl _ Tryz.underlying3 rfl rfl ?_))
        go_meet
        case rel => exact ⟨true, rfl, (fun _ => ⟨HC3.out, by trivial⟩), gb_refl _⟩
    clear O
    obtain ⟨r, rfl, hr, hg⟩ := hcut
    replace H := Lib.hid (H.out.grown hg)
    have HRR := Lib.hid hr
    have O := H.out.O
    clear hr hg
    go_upto_if 103 with (fail)
    go_cut [] from 64 to 166 (fun w' => ∃ c2 : BcD, Kept16 125 w0 w' [(ba, a.cells, 78), (bz, z.cells, 31), (bx, y.cells, 31)] [] p c2 ∧ c2.store.length + c2.pend.length ≤ k + 1 ∧ WInv c2 g1 ∧ firstB c2.store = l0)
    case first =>
      cases r with
      | false =>
        go_wp2_with fail
        go_meet
        case rel => exact ⟨c1, H.out, Nat.le_succ_of_le HT.out, HWI.out, HFB.out⟩
      | true =>
      obtain ⟨hk3, rfl⟩ := HRR.out (by trivial)
      obtain ⟨l, hof, hfit⟩ := HFIT.out y (HYB.out (by trivial)).1
      have CV := Lib.hid (kGive H.out y l hof hfit a.now HAW.out.now HR.out (by have := HT.out; omega))
      have HG := Lib.hid (give_total c1 l a.now); have HGW := Lib.hid (give_winv HWI.out l a.now); have HGF := Lib.hid (give_first HWI.out.some l a.now)
      clear hof hfit hk3
      go_wp2_with (first | ((with_reducible refine @wpList_at _ _ _ _ _ _ _ (.load 31 (.tmp 13)) rfl ?_); refine @wpList_of_whole _ _ _ _ _ _ _ _ _ _ 31 (.tmp 13) rfl O 2 bx rfl y.cells _ rfl _ Tryz.underlying31 rfl (sizeLt _ XW.out) rfl ?_) | ((with_reducible refine @wpList_at _ _ _ _ _ _ _ (.load 33 (.tmp 106)) rfl ?_); refine @wpList_of_cell _ _ _ _ _ _ _ _ _ _ 33 (.tmp 106) rfl O 0 ba 3 rfl _ _ rfl _ rfl _ Tryz.underlying33 rfl rfl ?_))
      refine CV.out.mono ?_
      rintro e w2 ⟨rfl, H2⟩
      go_wp2_with fail
      go_meet
      case rel => exact ⟨_, H2, by have := HG.out; have := HT.out; omega, HGW.out, HGF.out.trans HFB.out⟩
    clear O H HT HWI HFB HYB HRR
    obtain ⟨c2, hH, htot, hwi, hfb⟩ := hcut
    have HT := Lib.hid htot; have HWI := Lib.hid hwi; have HFB := Lib.hid hfb
    have CS := Lib.hid (kStore hH)
    clear hH htot hwi hfb
    go_wp2_with fail
    refine CS.out.mono ?_
    rintro e w1 ⟨a1, n1, k1, rfl, hn1, H1⟩
    have H := Lib.hid H1; have H1K := Lib.hid hn1
    have CW := Lib.hid (kWant H1)
    clear CS hn1 H1
    obtain ⟨W, hW⟩ : ∃ z, c2.want = z := ⟨_, rfl⟩
    rw [hW] at CW
    have HW := Lib.hid hW
    clear hW
    go_wp2_with fail
    refine CW.out.mono ?_
    rintro e w2 ⟨rfl, g⟩
    replace H := Lib.hid (H.out.grown g)
    clear g CW
    go_upto_region 19 with (fail)
    go_cut [131] from 64 to 130 (fun s131 w' => s131 = .bool false ∧ w2.grownBy w' none)
    case first =>
      by_cases hw0 : W = 0
      · subst hw0
        go_wp2_with fail
        go_meet
        case rel => exact ⟨rfl, gb_refl _⟩
      obtain ⟨J1, r1⟩ := H.out.row 0 rfl
      have hsp := List.length_pos_iff.2 H.out.ok.some
      obtain ⟨mm, hmm⟩ : ∃ mm, c2.store.length = mm + 1 := ⟨c2.store.length - 1, by omega⟩
      obtain ⟨g9, o9, c9, x9, hv9, hle9, hcm9, hg9, hrow9, hof9, i9, f9⟩ := r1.get mm (by omega)
      rw [lastB_at hmm] at hof9
      have e9 := (Value.slice.inj hv9).1; have e8 := (Value.slice.inj hv9).2.2; have e7 := (Value.slice.inj hv9).2.1
      rw [hmm] at e7
      subst e9 e8 e7
      unfold maxLen at hcm9
      rw [hmm] at hle9
      obtain ⟨LH, hLH⟩ : ∃ h, (lastB c2.store).header.height = h := ⟨_, rfl⟩
      have c91 : w2.cell? ⟨g9, o9 + mm * 200 + 1, none⟩ = some (.int .i64 LH) := by
        have := hrow9 1 _ rfl
        rw [hof9.header, hLH] at this
        exact this
      obtain ⟨b1, b2, _⟩ := HWI.out.busy (by rw [HW.out]; exact hw0)
      unfold hL at b1
      rw [HW.out] at b1 b2
      rw [hLH] at b1
      have ewm2 := IntWalk.i64_in (mm : Int) (by omega)
      have hsb : (((mm + 1 : Nat) : Int) - 1) = (mm : Int) := by omega
      have hsb2 : ((mm : Int) + 1 - 1) = (mm : Int) := by omega
      have hixx : ¬ ((mm : Int) + 1 ≤ (mm : Int)) := by omega
      have d1 : (W != 0) = true := by simpa using hw0
      have d2 : decide (W ≤ LH) = false := decide_eq_false (by omega)
      have d2n : ¬ W ≤ LH := by omega
      have d3 : decide (g1 < W) = false := decide_eq_false (by omega)
      have d3n : ¬ g1 < W := by omega
      clear hv9 r1 hg9 i9 f9 hrow9 hof9 hsp hmm hLH b1 b2 hw0 hle9 hcm9
      go_wp2_with fail
      go_meet
      case rel => exact ⟨rfl, gb_refl _⟩
    obtain ⟨rfl, hg⟩ := hcut
    replace H := Lib.hid (H.out.grown hg)
    clear hg
    go_upto_region 21 with (fail)
    have O := H.out.O
    obtain ⟨ZH, hZH⟩ : ∃ h, z.header.height = h := ⟨_, rfl⟩
    obtain ⟨ZC, hZC⟩ : ∃ h, z.header.chain = h := ⟨_, rfl⟩
    obtain ⟨XC, hXC⟩ : ∃ h, x.header.chain = h := ⟨_, rfl⟩
    have q0 := ((O.at_ 1 rfl).row 0 (.string z.header.chain) rfl)
    have q1 := ((O.at_ 1 rfl).row 1 (.int .i64 z.header.height) rfl)
    rw [Nat.zero_add] at q0 q1
    have q2 := ((RowAt.one PC.out).grown H.out.g (by simp)).at_one
    rw [hZH] at q1; rw [hZC] at q0; rw [hXC] at q2
    have HREF : Hid (ZH ≠ W ∨ ZC ≠ XC → c2.give lz a.now = (c2, 161)) := Lib.hid (fun h => give_refused (by
      rw [HW.out, ← HZ.out.header, hZH, hZC, HFB.out, ← HCH.out, hXC]
      rcases h with h | h
      · exact .inr (.inl h)
      · exact .inr (.inr h)))
    clear hZH hZC hXC
    by_cases hh : ZH = W
    · by_cases hc : ZC = XC
      · subst hh hc
        have HOO := Lib.hid O
        clear O
        go_quiet (fail)
        replace H := Lib.hid (H.out.grown (gb_drewN _ nq))
        clear q0 q1 q2 HOO
        go_wp2_with fail
        exact ⟨⟨k + 1, c2, g1, by omega, by omega, by omega, rfl, by go_num, H.out.rows0.only (by simp), HT.out, HWI.out, HFB.out⟩, by simp [intOf]; omega⟩
      · have HE := Lib.hid (HREF.out (.inr hc))
        have d2 := str_ne hc
        subst hh
        have CV := kGive H.out z lz HZ.out HZF.out a.now HAW.out.now HR.out (by have := HT.out; omega)
        rw [HE.out] at CV
        have CV2 := Lib.hid (fun u gg => kGive (H.out.grown (w' := u) gg) z lz HZ.out HZF.out a.now HAW.out.now HR.out (by have := HT.out; omega))
        rw [HE.out] at CV2
        have HOO := Lib.hid O
        clear O CV
        go_quiet (fail)
        have O := HOO.out.drewN nq
        clear q0 q1 q2 HOO
        go_wp2_with (first | ((with_reducible refine @wpList_at _ _ _ _ _ _ _ (.load 31 (.tmp 5)) rfl ?_); refine @wpList_of_whole _ _ _ _ _ _ _ _ _ _ 31 (.tmp 5) rfl O 1 bz rfl z.cells _ rfl _ Tryz.underlying31 rfl (sizeLt _ ZW.out) rfl ?_) | ((with_reducible refine @wpList_at _ _ _ _ _ _ _ (.load 33 (.tmp 150)) rfl ?_); refine @wpList_of_cell _ _ _ _ _ _ _ _ _ _ 33 (.tmp 150) rfl O 0 ba 3 rfl _ _ rfl _ rfl _ Tryz.underlying33 rfl rfl ?_))
        refine (CV2.out _ (gb_drewN _ nq)).mono ?_
        rintro e w5 ⟨rfl, H2⟩
        replace H := Lib.hid H2
        have CW2 := Lib.hid (kWant H2)
        clear H2 CV2 O
        rw [HW.out] at CW2
        go_wp2_with fail
        refine CW2.out.mono ?_
        rintro e w6 ⟨rfl, g⟩
        replace H := Lib.hid (H.out.grown g)
        clear g CW2
        have CS2 := Lib.hid (kStore H.out)
        go_wp2_with fail
        refine CS2.out.mono ?_
        rintro e w7 ⟨a3, n3, k3, rfl, hn3, H3⟩
        replace H := Lib.hid H3
        clear H3 hn3 CS2
        obtain ⟨J1, r1⟩ := H.out.row 0 rfl
        obtain ⟨J2, r2⟩ := H.out.row 1 rfl
        have CE := Lib.hid (same_ok _ r1 r2)
        clear r1 r2
        go_wp2_with fail
        refine CE.out.mono ?_
        rintro e w8 ⟨rfl, g⟩
        replace H := Lib.hid (H.out.grown g)
        clear g CE
        go_wp2_with fail
        exact ⟨⟨k + 1, c2, g1, by omega, by omega, by omega, rfl, by go_num, H.out.rows0.only (by simp), HT.out, HWI.out, HFB.out⟩, by simp [intOf]; omega⟩
    · have HE := Lib.hid (HREF.out (.inl hh))
      have d1 : (ZH != W) = true := by simpa using hh
      have CV := kGive H.out z lz HZ.out HZF.out a.now HAW.out.now HR.out (by have := HT.out; omega)
      rw [HE.out] at CV
      have CV2 := Lib.hid (fun u gg => kGive (H.out.grown (w' := u) gg) z lz HZ.out HZF.out a.now HAW.out.now HR.out (by have := HT.out; omega))
      rw [HE.out] at CV2
      have HOO := Lib.hid O
      clear O CV
      go_quiet (fail)
      have O := HOO.out.drewN nq
      clear q0 q1 q2 HOO
      go_wp2_with (first | ((with_reducible refine @wpList_at _ _ _ _ _ _ _ (.load 31 (.tmp 5)) rfl ?_); refine @wpList_of_whole _ _ _ _ _ _ _ _ _ _ 31 (.tmp 5) rfl O 1 bz rfl z.cells _ rfl _ Tryz.underlying31 rfl (sizeLt _ ZW.out) rfl ?_) | ((with_reducible refine @wpList_at _ _ _ _ _ _ _ (.load 33 (.tmp 150)) rfl ?_); refine @wpList_of_cell _ _ _ _ _ _ _ _ _ _ 33 (.tmp 150) rfl O 0 ba 3 rfl _ _ rfl _ rfl _ Tryz.underlying33 rfl rfl ?_))
      refine (CV2.out _ (gb_drewN _ nq)).mono ?_
      rintro e w5 ⟨rfl, H2⟩
      replace H := Lib.hid H2
      have CW2 := Lib.hid (kWant H2)
      clear H2 CV2 O
      rw [HW.out] at CW2
      go_wp2_with fail
      refine CW2.out.mono ?_
      rintro e w6 ⟨rfl, g⟩
      replace H := Lib.hid (H.out.grown g)
      clear g CW2
      have CS2 := Lib.hid (kStore H.out)
      go_wp2_with fail
      refine CS2.out.mono ?_
      rintro e w7 ⟨a3, n3, k3, rfl, hn3, H3⟩
      replace H := Lib.hid H3
      clear H3 hn3 CS2
      obtain ⟨J1, r1⟩ := H.out.row 0 rfl
      obtain ⟨J2, r2⟩ := H.out.row 1 rfl
      have CE := Lib.hid (same_ok _ r1 r2)
      clear r1 r2
      go_wp2_with fail
      refine CE.out.mono ?_
      rintro e w8 ⟨rfl, g⟩
      replace H := Lib.hid (H.out.grown g)
      clear g CE
      go_wp2_with fail
      exact ⟨⟨k + 1, c2, g1, by omega, by omega, by omega, rfl, by go_num, H.out.rows0.only (by simp), HT.out, HWI.out, HFB.out⟩, by simp [intOf]; omega⟩

end Go.Proofs.YtdhchehagfmjcaaGreatDoor
