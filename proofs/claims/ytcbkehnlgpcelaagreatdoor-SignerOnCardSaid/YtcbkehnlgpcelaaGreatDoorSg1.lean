/- Walks: a tape's calls. -/
import Derived.Test.YtcbkehnlgpcelaaGreatDoorSg0
namespace Go.Proofs.YtcbkehnlgpcelaaGreatDoor
open Go.RowKit
set_option maxRecDepth 100000

section
variable {P : Program} {o : Oper} {a : Act} {w0 w : World} {K : Act → World → Prop} {Q : Exit → Act → World → Prop} {F : Nat → Prop} {L : List (Nat × List Value × TypeId)}
theorem wp_of_slice1v (t : TypeId) (x : Operand) (ho : o.op = .buildSlice t 1 #[(0, x)]) (u : Value) (cs : List Value) (hx : a.eval x = u) (hu : u.cells = cs.toArray) (e : TypeId) (z : Value) (size : Nat) (ht : P.underlying t = some (.slice e)) (hi : (P.info? e).map (fun i => (i.zero, i.size)) = some (some z, size)) (h1 : cs.length = size) (hn : size ≤ 16777216)
    (O : OwF F w0 w L) (h : ∀ b w2, w.grownBy w2 none → OwF F w0 w2 ((b, cs, e) :: L) → K (a.put o.dst (.slice (some ⟨b, 0, none⟩) 1 1)) w2) : o.wp P a w K Q := by
  cases hq : P.info? e with
  | none => simp [hq] at hi
  | some i =>
    have hi' : i.zero = some z ∧ i.size = size := by simpa [hq] using hi
    have hr := run_buildSlice_all (P := P) w t e i z size ht hq hi'.1 hi'.2 [u] (by simpa [hu] using h1) (by simpa using hn)
    have hf : flatCells [u] = cs := by simp [flatCells, hu]
    rw [hf] at hr
    unfold Oper.wp execOp
    have hv' : (#[(0, x)].map fun ((i : Nat), x) => (i, a.eval x)) = (([u].zipIdx 0).map fun x => (x.2, x.1)).toArray := by simp [hx]
    simp only [ho, hv', Sem.run_bind]
    rw [show (1 : Nat) = [u].length from rfl, hr]
    simp only [Result.andThen_ok]
    exact h _ _ (World.grownBy_alloc w _ none) (O.new (Blk.new w cs e) (World.grownBy_alloc w _ none))
theorem wpList_of_slice0 {ops : Array Oper} {rest : List Oper} (t : TypeId) (ho : o.op = .buildSlice t 0 #[]) (e : TypeId) (z : Value) (size : Nat) (ht : P.underlying t = some (.slice e)) (hi : (P.info? e).map (fun i => (i.zero, i.size)) = some (some z, size))
    (O : OwF F w0 w L) (hgd : Region.wanted o (yielded ops a.tmps) = true) (h : ∀ b w2, OwF F w0 w2 ((b, [], e) :: L) → wpList P ops Q rest (a.put o.dst (.slice (some ⟨b, 0, none⟩) 0 0)) w2) : wpList P ops Q (o :: rest) a w := by
  refine wpList_wanted hgd fun K hK => ?_
  cases hq : P.info? e with
  | none => simp [hq] at hi
  | some i =>
    have hi' : i.zero = some z ∧ i.size = size := by simpa [hq] using hi
    have hr := run_buildSlice_all (P := P) w t e i z size ht hq hi'.1 hi'.2 [] (by simp) (by simp)
    have hr2 : (Instr.buildSlice t 0 #[]).run P w = .ok (.slice (some ⟨w.heap.size, 0, none⟩) 0 0) (w.alloc (.cells (flatCells ([] : List Value)).toArray e)) := hr
    have hf : flatCells ([] : List Value) = [] := rfl
    rw [hf] at hr2
    unfold Oper.wp execOp
    simp only [ho, List.map_toArray, List.map_nil, Sem.run_bind, hr2, Result.andThen_ok]
    exact hK _ _ (h _ _ (O.new (Blk.new w [] e) (World.grownBy_alloc w _ none)))
theorem wp_load_one (ty : TypeId) (x : Operand) (ho : o.op = .load ty x) (g k : Nat) (hx : a.eval x = .pointer (some ⟨g, k, none⟩)) (v : Value) (d : TypeDesc) (hr : RowAt w g k [v])
    (hu : P.underlying ty = some d) (hd : (match d with | .struct _ | .array _ _ => true | _ => false) = false) (h : K (a.put o.dst v) w) : o.wp P a w K Q := by
  unfold Oper.wp execOp
  simp only [ho, hx, Instr.loadAt, Instr.sureAddr, Sem.run_bind, Sem.run_pure, Result.andThen_ok, run_loadVar_plain w _ ty d v hu hd hr.at_one]
  exact h
theorem wp_append_full (s x : Operand) (t tx : TypeId)
    (ho : o.op = .call { callee := .builtin .append, args := #[s, x], argTypes := #[t, tx] })
    (e : TypeId) (z : Value) (size bytes : Nat) (ht : P.underlying t = some (.slice e)) (hi : (P.info? e).map (fun i => (i.zero, i.size, i.bytes)) = some (some z, size, bytes)) (hzs : z.cells.size = size)
    (ao : Option Addr) (n : Nat) (xs : List Value) (hs : a.eval s = .slice ao n n) (hown : SRow w e size (.slice ao n n) n xs) (xv : Value) (m : Nat) (news : List Value) (hx : a.eval x = xv) (hsrc : Src P size tx xv m news w) (hm : 0 < m)
    (h63 : n + m ≤ maxLen) (hbytes : (n + m) * bytes ≤ 140737488355328)
    (h : ∀ v' w', SRow w' e size v' (n + m) (xs ++ news) → w.grownBy w' none → v'.ownBlock = some w.heap.size → K (a.put o.dst v') w') :
    o.wp P a w K Q := by
  obtain ⟨i, hi', hz, rfl, rfl⟩ := info_parts hi
  have hl := hsrc.newsLen
  have hlen : (xs ++ news).length = (n + m) * i.size := by rw [List.length_append, hown.1, hl, Nat.add_mul]
  have grown : SRow (w.drew.alloc (.cells ((xs ++ news).toArray ++ Builtin.zeroCells z.cells (grownCap w (n + m) n e - (n + m))) e)) e i.size
        (.slice (some ⟨w.heap.size, 0, none⟩) (n + m) (grownCap w (n + m) n e)) (n + m) (xs ++ news) ∧
      w.grownBy (w.drew.alloc (.cells ((xs ++ news).toArray ++ Builtin.zeroCells z.cells (grownCap w (n + m) n e - (n + m))) e)) none := by
    have hge := grownCap_ge w (n + m) n e
    have hcm : grownCap w (n + m) n e ≤ maxLen := grownCap_le_maxLen w (n + m) n e h63
    refine ⟨SRow.of_owns (B := w.heap.size) ⟨hlen, .inr ⟨w.heap.size, _, _, rfl, Nat.le_refl _, heap_alloc_new w.drew _, hge, hcm, ?_, ?_⟩⟩, ⟨rfl, rfl, rfl, by simp, fun k hk _ => Below.heap_alloc w.drew _ k hk⟩⟩
    · simp only [Array.size_append, List.size_toArray, size_zeroCells, hzs, hlen, ← Nat.add_mul]
      congr 1
      omega
    · simp only [Array.toList_append]
      rw [← hlen]
      exact List.take_left
  have hold : (Builtin.firstCells i.size n (.slice ao n n)).run P w.drew = .ok xs.toArray w.drew := by
    rcases hown.2 with ⟨hv, hn⟩ | ⟨g, o, cap, cur, hv, hg, hnc, hcm, hcs, htake⟩
    · subst hn
      injection hv with ha _ _
      subst ha
      have hx0 : xs = [] := List.eq_nil_of_length_eq_zero (by simpa using hown.1)
      subst hx0
      exact run_firstCells_none w.drew i.size 0 0 0
    · injection hv with ha _ hc
      subst ha
      subst hc
      exact run_firstCells_some w.drew i.size n ⟨g, o, none⟩ n n xs hown.1 (by
        intro j u hj
        have := hown.row j u hj
        rw [addr_add]
        simpa using this)
  have hr := run_append_grow_src (P := P) w t tx o.type e i z ht hi' hz ao n n xs hold xv m news hsrc (by omega) (by simp only [maxLen] at h63; omega) (growslice_fits (by omega) hbytes)
  unfold Oper.wp execOp
  simp only [ho, resolve, invoke, builtin, Sem.run_bind, Sem.run_pure, Result.andThen_ok, List.map_toArray, List.map_cons, List.map_nil, hs, hx, hr]
  exact h _ _ grown.1 grown.2 rfl
end
theorem SRow.full {w : World} {e : TypeId} {k n c : Nat} {ao : Option Addr} {xs : List Value} (h : SRow w e k (.slice ao n c) n xs) : SRow w e k (.slice ao n n) n xs := by
  obtain ⟨h0, ⟨hv, hn⟩ | ⟨g, o, cap, cur, hv, hg, hnc, hcm, hcs, htake⟩⟩ := h
  · subst hn
    injection hv with ha _ _
    subst ha
    exact ⟨h0, .inl ⟨rfl, rfl⟩⟩
  · injection hv with ha _ hc
    subst ha
    subst hc
    exact ⟨h0, .inr ⟨g, o, n, cur, rfl, hg, Nat.le_refl _, Nat.le_trans hnc hcm, by have := Nat.mul_le_mul_right k hnc; omega, htake⟩⟩
theorem SRow.src {P : Program} {w : World} {e tx : TypeId} {k n : Nat} {v : Value} {xs : List Value} (h : SRow w e k v n xs) (ht : P.underlying tx = some (.slice e)) (h1 : ∀ u ∈ xs, u.oneCell' = true) : Src P k tx v n xs w := by
  rcases id h.2 with ⟨rfl, rfl⟩ | ⟨g, o, cap, cur, rfl, hg, hnc, hcm, hcs, htake⟩
  · have hx0 : xs = [] := List.eq_nil_of_length_eq_zero (by simpa using h.1)
    subst hx0
    exact Src.ofNil _ ht 0
  · exact Src.ofSlice _ ht _ n cap xs h.1 (fun j u hj => by rw [addr_add]; exact h.row j u hj) h1
theorem run_buildS {P : Program} {o : Oper} {a : Act} {w : World} (t : TypeId) (parts : Array (Nat × Operand)) (ho : o.op = .build t parts)
    (ps : List (Nat × Value)) (hp : (parts.map fun (i, x) => (i, a.eval x)).toList = ps) (cs : List Value) (hb : P.built t ps = some cs.toArray) : (execOp a.eval o).run P w = .ok (.value (.agg cs.toArray)) w := by
  have hb' : P.built t (parts.map fun (i, x) => (i, a.eval x)).toList = some cs.toArray := by rw [hp]; exact hb
  unfold execOp
  simp only [ho, Sem.run_bind, run_build w t _ _ hb', Result.andThen_ok, Sem.run_pure]
def ZTp : List Value := [.slice none 0 0, .int .i64 0, .slice none 0 0, .int .i64 0, .slice none 0 0]
theorem ZTp_info : (Tryz.prog.info? 75).map (fun i => i.zero.map (fun v => v.cells)) = some (some ZTp.toArray) := by kernel_rfl
theorem step_inf : (Tryz.prog.info? 72).map (fun i => (i.zero, i.size, i.bytes)) = some (some (.agg #[.slice none 0 0, .int .i64 0]), 2, 32) := by kernel_rfl
theorem step_inf2 : (Tryz.prog.info? 72).map (fun i => (i.zero, i.size)) = some (some (.agg #[.slice none 0 0, .int .i64 0]), 2) := by kernel_rfl
theorem byte_inf : (Tryz.prog.info? 5).map (fun i => (i.zero, i.size, i.bytes)) = some (some (.int .u8 0), 1, 1) := by kernel_rfl
theorem byte_inf2 : (Tryz.prog.info? 5).map (fun i => (i.zero, i.size)) = some (some (.int .u8 0), 1) := by kernel_rfl
theorem slice_one (a : Option Addr) (n c : Nat) : (Value.slice a n c).oneCell' = true := rfl
theorem step_one (a : Option Addr) (n c : Nat) (s : Int) : ∀ v ∈ [Value.slice a n c, .int .i64 s], v.oneCell' = true := by simp [Value.oneCell']
theorem dr1s (w : World) : w.grownBy w.drew none := ⟨rfl, rfl, rfl, Nat.le_refl _, fun _ _ _ => rfl⟩
def TpP.new (b : Nat) : TpP := ⟨b, .slice none 0 0, [], 0, .slice none 0 0, 0, .slice none 0 0, 0, [], [], []⟩
theorem tpNew_ok (w0 : World) : Calls Tryz.prog 8 #[] w0 fun e w' => ∃ b, e = .returned (.pointer (some ⟨b, 0, none⟩)) ∧ TpRep w' (.new b) ∧ w0.grownBy w' none ∧ w0.heap.size ≤ b := by
  have O := OwF.start (fun _ => False) w0
  go_enter Tryz.func8, Tryz.ntmps8
  go_wp2_with (first | ((with_reducible refine @wpList_at _ _ _ _ _ _ _ (.alloc 75) rfl ?_); refine @wpList_of_alloc _ _ _ _ _ _ _ _ _ _ 75 rfl ZTp ZTp_info O rfl ?_; clear O; intro b1 w O))
  go_ret
  exact ⟨b1, rfl, ⟨O.at_ 0 rfl, SRow.nil _ _ _, SRow.nil _ _ _, SRow.nil _ _ _, rfl, rfl, fun _ h => by cases h⟩, O.tch.grown (fun _ h => h.elim), (O.lie 0 rfl).resolve_right id⟩
/-- a call on a tape, from x to y -/
def TpPost (w : World) (x y : TpP) (w' : World) : Prop := TpRep w' y ∧ Tch x.foot w w' ∧ y.t = x.t ∧ ∀ b, y.foot b → x.foot b ∨ w.heap.size ≤ b
set_option maxHeartbeats 4000000 in
theorem done_ok {w0 : World} {x : TpP} (h : TpRep w0 x) (bv : Value) (B : List UInt8) (safe : Int) (hb : SRow w0 5 1 bv B.length (Lib.byteCells B)) (hn : x.ns ≤ 100000) :
    Calls Tryz.prog 52 #[.pointer (some ⟨x.t, 0, none⟩), .agg #[bv, .int .i64 safe]] w0 fun e w' => e = .returned (.int .i64 0) ∧ ∃ sv, TpPost w0 x (x.next bv B safe sv) w' := by
  obtain ⟨ab, cb, hbv, _⟩ := hb.shape
  obtain ⟨a9, c9, hsv, _⟩ := h.steps.shape
  obtain ⟨t, bv0, B0, safe0, fv, fs, sv, ns, sx, fB, st⟩ := x
  dsimp only at hsv hn
  subst hbv hsv
  have H := Lib.hid h; have HB := Lib.hid hb; have HN := Lib.hid hn
  obtain ⟨nb, hnb⟩ : ∃ n, B.length = n := ⟨_, rfl⟩
  rw [hnb]
  have O := (OwF.start (fun b => b = t) w0).add (show Blk w0 t [bv0, .int .i64 safe0, fv, .int .i64 fs, .slice a9 ns c9] _ from h.blk) rfl (by simp)
  clear h hb hn
  show Calls _ _ #[.pointer (some ⟨t, 0, none⟩), _] _ _
  go_enter Tryz.func52, Tryz.ntmps52
  go_upto_region 2 with (first | ((with_reducible refine @wpList_at _ _ _ _ _ _ _ (.box 72 (.tmp 1)) rfl ?_); refine @wpList_of_box _ _ _ _ _ _ _ _ _ _ 72 (.tmp 1) rfl [.slice ab nb cb, .int .i64 safe] rfl O rfl ?_; clear O; intro b3 w O) | ((with_reducible refine @wpList_at _ _ _ _ _ _ _ (.load 72 (.tmp 3)) rfl ?_); refine @wpList_of_whole _ _ _ _ _ _ _ _ _ _ 72 (.tmp 3) rfl O 0 b3 rfl [.slice ab nb cb, .int .i64 safe] _ rfl _ Tryz.underlying72 rfl (by kernel_rfl) rfl ?_) | ((with_reducible refine @wpList_at _ _ _ _ _ _ _ (.store 72 (.tmp 8) (.tmp 6)) rfl ?_); refine wpList_of_store_part 72 _ _ rfl O 1 t 0 rfl [.slice ab nb cb, .int .i64 safe] _ _ rfl rfl (by show (0 : Nat) + 2 ≤ 5; decide) (step_one _ _ _ _) (by kernel_rfl) rfl ?_; clear O; intro w O; simp only [List.set_cons_zero, List.set_cons_succ, List.take_zero, List.nil_append, List.cons_append, List.drop_succ_cons, List.drop_zero, List.length_cons, List.length_nil, Nat.zero_add, Nat.reduceAdd] at O))
  replace O := O.drew
  refine wp_region_J (rdf [(4, t, 4, [(.slice a9 ns c9)]), (5, b3, 0, [.slice ab nb cb, .int .i64 safe])]) [6, 7, 10] (by kernel_rfl) (RdA.cons (O.cellr (n := 1) rfl rfl) (RdA.cons (O.at_ 0 rfl).row RdA.nil)) (fun hH => ?_)
  refine jp 0 ((.pointer (some ⟨t, 0, none⟩))) (Still.all hH) ?_
  simp only [Act.put, jq1, jq3, jq4, jq5, jq6]
  refine jp 1 ((.pointer (some ⟨t, 0, none⟩))) (Still.all hH) ?_
  simp only [Act.put, jq1, jq2, jq3, jq4, jq5, jq6]
  refine jp 2 ((.pointer (some ⟨t, 0, none⟩))) (Still.all hH) ?_
  simp only [Act.put, jq1, jq2, jq3, jq4, jq5, jq6]
  refine jp 3 ((.pointer (some ⟨t, 4, none⟩))) (Still.all hH) ?_
  simp only [Act.put, jq1, jq2, jq3, jq4, jq5, jq6]
  refine jr 0 4 ((.slice a9 ns c9)) rfl rfl (yields_cell (by rfl) 73 _ rfl t 4 rfl (.slice a9 ns c9) _ (fun W h => h) Tryz.underlying73 rfl) (Still.all hH) ?_
  simp only [Act.put, jq1, jq2, jq3, jq4, jq5, jq6]
  refine jr 1 5 ((.agg ([.slice ab nb cb, .int .i64 safe]).toArray)) rfl rfl (yieldsIf_load_mid (by rfl) 72 _ rfl b3 0 rfl [.slice ab nb cb, .int .i64 safe] _ (fun W h => h) Tryz.underlying72 rfl (by kernel_rfl)) (Still.all hH) ?_
  simp only [Act.put, jq1, jq2, jq3, jq4, jq5, jq6]
  refine wpAnyJ_ready (rs := [6]) (by kernel_rfl) (by simp) ?_
  refine AllJ.keep rfl (by rfl) (by rfl) (fun K hK => ?_) (AllJ.nil)
  refine wp_of_slice1 73 _ rfl [.slice ab nb cb, .int .i64 safe] rfl 72 _ 2 Tryz.underlying73 step_inf2 rfl (by decide) O ?_
  clear O
  intro b8 u g2 O
  simp only [Act.put, jq1, jq2, jq3, jq4, jq5, jq6]
  refine hK.out _ _ (RdA.grown hH g2) ?_
  replace hH := RdA.grown hH g2
  clear hK K
  refine wpAnyJ_ready (rs := [7]) (by kernel_rfl) (by simp) ?_
  refine AllJ.keep rfl (by rfl) (by rfl) (fun K hK => ?_) (AllJ.nil)
  have hs9 := H.out.steps.tch O.tch (fun b hb e => H.out.steps.ne H.out.blk (by decide) (e ▸ hb))
  have hne : (Value.slice a9 ns c9).ownBlock ≠ some t := H.out.steps.ne H.out.blk (by decide)
  have hb3 : (Value.slice a9 ns c9).ownBlock ≠ some b3 := fun e => by have h1 := H.out.steps.lt e; rcases O.lie 1 rfl with h2 | h2; omega; exact O.ne (i := 1) (j := 2) rfl rfl (by decide) h2
  have hH9 : ∀ e ∈ ([(4, t, 4, [.slice a9 ns c9]), (5, b3, 0, [.slice ab nb cb, .int .i64 safe])] : RdR), (Value.slice a9 ns c9).ownBlock ≠ some e.2.1 := by intro e he; simp only [List.mem_cons, List.not_mem_nil, or_false] at he; rcases he with rfl | rfl; exact hne; exact hb3
  refine wp_of_app _ _ 73 rfl 72 _ 2 32 Tryz.underlying73 step_inf rfl (.slice a9 ns c9) ns sx rfl hs9 b8 rfl [.slice ab nb cb, .int .i64 safe] (O.at_ 0 rfl).row rfl (step_one _ _ _ _) (by have := HN.out; omega) (by decide) ?_
  intro v9 u9 hS t9 o9
  obtain ⟨a7, c7, hv7, _⟩ := hS.shape
  subst hv7
  have HBT := Lib.hid (t9.blk (O.at_ 2 rfl) hne)
  have HS9 := Lib.hid hS; have HO9 := Lib.hid o9
  have HT9 := Lib.hid t9
  have HTO := Lib.hid O.tch
  have OQ := (OwF.start (fun b => b = t) u9).add (t9.blk (O.at_ 2 rfl) hne) rfl (by simp)
  clear O hS t9 o9 hs9
  simp only [Act.put, jq1, jq2, jq3, jq4, jq5, jq6]
  refine hK.out _ _ (RdA.tch hH HT9.out hH9) ?_
  replace hH := RdA.tch hH HT9.out hH9
  clear hK K hH9
  refine jp 8 ((.pointer (some ⟨t, 0, none⟩))) (Still.all hH) ?_
  simp only [Act.put, jq1, jq2, jq3, jq4, jq5, jq6]
  refine jp 9 ((.pointer (some ⟨t, 4, none⟩))) (Still.all hH) ?_
  simp only [Act.put, jq1, jq2, jq3, jq4, jq5, jq6]
  refine wpAnyJ_ready (rs := [10]) (by kernel_rfl) (by simp) ?_
  refine AllJ.turn rfl (by rfl) (by rfl) (fun K hK => ?_) (AllJ.nil)
  refine wp_of_store_cell 73 _ _ rfl OQ 0 t 4 rfl (.slice a7 (ns + 1) c7) rfl rfl _ _ rfl (by show (4 : Nat) < 5; decide) rfl ?_
  clear OQ
  intro w OQ
  simp only [List.set_cons_zero] at OQ
  simp only [Act.put, jq1]
  refine hK.out _ _ (waits_all (by kernel_rfl)) ?_
  clear hK K hH
  refine wpAnyJ_done (by kernel_rfl) ?_ _
  go_wp2_with fail
  go_ret
  have t1 := ((HTO.out.mono (G := fun b => b = t ∨ (Value.slice a9 ns c9).ownBlock = some b) (fun b hb _ => .inl hb)).trans HT9.out (fun b hb _ => .inr hb)).trans OQ.tch (fun b hb _ => .inl hb)
  have hbt : ∀ b, (Value.slice ab nb cb).ownBlock = some b → ¬ (b = t ∨ (Value.slice a9 ns c9).ownBlock = some b) := fun b hb hf => by
    rw [← hnb] at hb
    rcases hf with rfl | hf
    · exact HB.out.ne H.out.blk (by decide) hb
    · exact HB.out.ne2 H.out.steps (by decide) hb hf
  have hB9 : SRow w 5 1 (.slice ab nb cb) B.length (Lib.byteCells B) := by
    have := HB.out.tch t1 (by rw [hnb]; exact hbt)
    rwa [hnb] at this ⊢
  have htw : ∀ {v : Value} {l : List UInt8}, SRow w0 5 1 v l.length (Lib.byteCells l) → SRow w 5 1 v l.length (Lib.byteCells l) := fun hv => hv.tch t1 (fun b hb hf => by
    rcases hf with rfl | hf
    · exact hv.ne H.out.blk (by decide) hb
    · exact hv.ne2 H.out.steps (by decide) hb hf)
  refine ⟨rfl, .slice a7 (ns + 1) c7, ⟨OQ.at_ 0 rfl, hB9, HS9.out.tch OQ.tch (fun b hb e => HS9.out.ne HBT.out (by decide) (e ▸ hb)), htw H.out.first, ?_, ?_, fun s hs => ?_⟩, t1, rfl, fun b hb => ?_⟩
  · have h0 : ns = st.length := H.out.nst
    show ns + 1 = (st ++ [_]).length
    rw [h0, List.length_append]; rfl
  · have h0 : sx = stC st := H.out.sst
    show sx ++ [_, _] = stC (st ++ [_])
    rw [h0]; simp [stC]
  · rcases List.mem_append.1 hs with hs | hs
    · exact htw (H.out.each s hs)
    · obtain rfl := List.mem_singleton.1 hs
      exact hB9
  · rcases hb with hb | hb
    · exact .inl (.inl hb)
    · rcases HO9.out with h9 | ⟨b9, h9, h8⟩
      · exact .inl (.inr (h9 ▸ hb))
      · have e := Option.some.inj (h9.symm.trans hb)
        subst e
        exact .inr (Nat.le_trans HTO.out.size h8)
theorem bStep (a : Option Addr) (n c : Nat) (s : Int) : Tryz.prog.built 72 [(0, .slice a n c), (1, .int .i64 s)] = some [.slice a n c, .int .i64 s].toArray := by kernel_rfl
theorem TpPost.back {w0 w w' : World} {x y : TpP} (g : w0.grownBy w none) (h : TpPost w x y w') : TpPost w0 x y w' :=
  ⟨h.1, (Tch.of_grown g).trans h.2.1 (fun _ hb _ => hb), h.2.2.1, fun b hb => (h.2.2.2 b hb).elim .inl (fun hl => .inr (Nat.le_trans g.size hl))⟩
set_option maxHeartbeats 4000000 in
theorem tpSync_ok {w0 : World} {x : TpP} (h : TpRep w0 x) (hn : x.ns ≤ 100000) :
    Calls Tryz.prog 63 #[.pointer (some ⟨x.t, 0, none⟩)] w0 fun e w' => e = .returned (.int .i64 0) ∧ ∃ sv, TpPost w0 x (x.next x.bv x.B (x.B.length : Int) sv) w' := by
  obtain ⟨ab, cb, hbv, _⟩ := h.bytes.shape
  have CD := Lib.hid (fun w (gg : w0.grownBy w none) => (done_ok (h.grown gg) x.bv x.B (x.B.length : Int) (h.bytes.grown gg) hn).mono (fun e w' hh => (⟨hh.1, hh.2.elim fun sv k => ⟨RowAt.one (k.1.blk.row 0 _ rfl), sv, k.back gg⟩⟩ : e = .returned (.int .i64 0) ∧ RowAt w' x.t 0 [x.bv] ∧ ∃ sv, TpPost w0 x (x.next x.bv x.B (x.B.length : Int) sv) w')))
  obtain ⟨PP, hPP⟩ : ∃ PP : World → Prop, (fun w' => ∃ sv, TpPost w0 x (x.next x.bv x.B (x.B.length : Int) sv) w') = PP := ⟨_, rfl⟩
  have hPe : ∀ w', (∃ sv, TpPost w0 x (x.next x.bv x.B (x.B.length : Int) sv) w') = PP w' := fun w' => congrFun hPP w'
  simp only [hPe] at CD ⊢
  have hb0 := h.blk
  unfold TpP.cells at hb0
  rw [hbv] at CD hb0
  have F0 := Lib.hid (show RowAt w0 x.t 0 [.slice ab x.B.length cb] from RowAt.one (hb0.row 0 _ rfl))
  clear hPe hPP hb0 hbv h
  go_enter Tryz.func63, Tryz.ntmps63
  go_upto_region 3 with fail
  have gd := dr1s w0
  have GD := Lib.hid gd
  clear gd
  refine wp_region_J (rdf [(5, x.t, 0, [(.slice ab x.B.length cb)]), (10, x.t, 0, [(.slice ab x.B.length cb)])]) [13] (by kernel_rfl) (RdA.cons (F0.out.grown GD.out (by simp)) (RdA.cons (F0.out.grown GD.out (by simp)) RdA.nil)) (fun hH => ?_)
  refine jp 0 ((.pointer (some ⟨x.t, 0, none⟩))) (Still.all hH) ?_
  simp only [Act.put, jq1, jq3]
  refine jp 1 ((.pointer (some ⟨x.t, 0, none⟩))) (Still.all hH) ?_
  simp only [Act.put, jq1, jq2, jq3, jq4, jq5, jq6]
  refine jp 2 ((.pointer (some ⟨x.t, 0, none⟩))) (Still.all hH) ?_
  simp only [Act.put, jq1, jq4]
  refine jp 3 ((.pointer (some ⟨x.t, 0, none⟩))) (Still.all hH) ?_
  simp only [Act.put, jq1, jq2, jq3, jq4, jq5, jq6]
  refine jp 4 ((.pointer (some ⟨x.t, 0, none⟩))) (Still.all hH) ?_
  simp only [Act.put, jq1, jq2, jq3, jq4, jq5, jq6]
  refine jr 0 5 ((.slice ab x.B.length cb)) rfl rfl (yields_cell (by rfl) 27 _ rfl x.t 0 rfl (.slice ab x.B.length cb) _ (fun W h => h) Tryz.underlying27 rfl) (Still.all hH) ?_
  simp only [Act.put, jq1, jq2, jq3, jq4, jq5, jq6]
  refine jp 6 ((.pointer (some ⟨x.t, 0, none⟩))) (Still.all hH) ?_
  simp only [Act.put, jq1, jq2, jq3, jq4, jq5, jq6]
  refine jp 7 ((.pointer (some ⟨x.t, 0, none⟩))) (Still.all hH) ?_
  simp only [Act.put, jq1, jq2, jq3, jq4, jq5, jq6]
  refine jp 8 ((.pointer (some ⟨x.t, 0, none⟩))) (Still.all hH) ?_
  simp only [Act.put, jq1, jq2, jq3, jq4, jq5, jq6]
  refine jp 9 ((.pointer (some ⟨x.t, 0, none⟩))) (Still.all hH) ?_
  simp only [Act.put, jq1, jq2, jq3, jq4, jq5, jq6]
  refine jr 1 10 ((.slice ab x.B.length cb)) rfl rfl (yields_cell (by rfl) 27 _ rfl x.t 0 rfl (.slice ab x.B.length cb) _ (fun W h => h) Tryz.underlying27 rfl) (Still.all hH) ?_
  simp only [Act.put, jq1, jq2, jq3, jq4, jq5, jq6]
  refine jp 11 ((.int .i64 (x.B.length : Int))) (Still.all hH) ?_
  simp only [Act.put, jq1, jq2, jq3, jq4, jq5, jq6]
  refine jp 12 ((.agg [.slice ab x.B.length cb, .int .i64 (x.B.length : Int)].toArray)) (Still.all hH) ?_ (hy := (Or.inl ⟨by rfl, fun W _ => run_buildS 72 _ rfl [(0, .slice ab x.B.length cb), (1, .int .i64 (x.B.length : Int))] (by kernel_rfl) _ (bStep _ _ _ _)⟩))
  simp only [Act.put, jq1, jq2, jq3, jq4, jq5, jq6]
  refine wpAnyJ_ready (rs := [13]) (by kernel_rfl) (by simp) ?_
  refine AllJ.keep rfl (by rfl) (by rfl) (fun K hK => ?_) (AllJ.nil)
  refine wp_call 52 _ _ (by rfl) (enters Tryz.func52 (by kernel_rfl) rfl) (by rfl) (CD.out _ GD.out) ?_
  rintro e u ⟨rfl, hr1, hp⟩
  refine ⟨_, rfl, ?_⟩
  have HP := Lib.hid hp
  have HR1 := Lib.hid hr1
  simp only [Act.put, jq1, jq2, jq3, jq4, jq5, jq6]
  refine hK.out _ _ (RdA.cons (i := 5) HR1.out (RdA.cons (i := 10) HR1.out RdA.nil)) ?_
  replace hH := (RdA.cons (i := 5) HR1.out (RdA.cons (i := 10) HR1.out RdA.nil))
  clear hK K hr1 hp
  refine jp 14 ((.int .i64 0)) (Still.all hH) ?_
  simp only [Act.put, jq1, jq2, jq3, jq4, jq5, jq6]
  refine wpAnyJ_done (by kernel_rfl) ?_ _
  go_wp2_with fail
  go_ret
  exact ⟨rfl, HP.out⟩
set_option maxHeartbeats 4000000 in
theorem tpAppend_ok {w0 : World} {x : TpP} (h : TpRep w0 x) (hn : x.ns ≤ 100000) (v : Value) (R : List UInt8) (hv : SRow w0 5 1 v R.length (Lib.byteCells R)) (hR : 0 < R.length) (hfit : x.B.length + R.length ≤ 1048576) :
    Calls Tryz.prog 20 #[.pointer (some ⟨x.t, 0, none⟩), v] w0 fun e w' => e = .returned (.int .i64 0) ∧ ∃ bv sv, TpPost w0 x (x.next bv (x.B ++ R) x.safe sv) w' := by
  obtain ⟨ab, cb, hbv, _, hcb⟩ := h.bytes.shape
  obtain ⟨av, cv, rfl, _⟩ := hv.shape
  have CD := Lib.hid (fun w (gg : w0.grownBy w none) (v9 : Value) (hv9 : SRow w 5 1 v9 (x.B.length + R.length) (Lib.byteCells x.B ++ Lib.byteCells R)) => (done_ok (h.grown gg) v9 (x.B ++ R) x.safe (by rw [List.length_append, Lib.byteCells, List.map_append]; exact hv9) hn).mono (fun e w' hh => (⟨hh.1, hh.2.elim fun sv k => ⟨RowAt.one (k.1.blk.row 1 _ rfl), v9, sv, k.back gg⟩⟩ : e = .returned (.int .i64 0) ∧ RowAt w' x.t 1 [.int .i64 x.safe] ∧ ∃ bv sv, TpPost w0 x (x.next bv (x.B ++ R) x.safe sv) w')))
  obtain ⟨PP, hPP⟩ : ∃ PP : World → Prop, (fun w' => ∃ bv sv, TpPost w0 x (x.next bv (x.B ++ R) x.safe sv) w') = PP := ⟨_, rfl⟩
  have hPe : ∀ w', (∃ bv sv, TpPost w0 x (x.next bv (x.B ++ R) x.safe sv) w') = PP w' := fun w' => congrFun hPP w'
  simp only [hPe] at CD ⊢
  have hb0 := h.blk
  unfold TpP.cells at hb0
  rw [hbv] at hb0
  have F0 := Lib.hid (show RowAt w0 x.t 0 [.slice ab x.B.length cb] from RowAt.one (hb0.row 0 _ rfl))
  have F1 := Lib.hid (show RowAt w0 x.t 1 [.int .i64 x.safe] from RowAt.one (hb0.row 1 _ rfl))
  have HBF := Lib.hid (show SRow w0 5 1 (.slice ab x.B.length x.B.length) x.B.length (Lib.byteCells x.B) from SRow.full (hbv ▸ h.bytes))
  have HV := Lib.hid hv
  have c0 : w0.cell? ⟨x.t, 0, none⟩ = some (.slice ab x.B.length cb) := by have := F0.out 0 _ rfl; rwa [Nat.add_zero] at this
  have HFIT := Lib.hid (show 0 < R.length ∧ x.B.length + R.length ≤ 1048576 from ⟨hR, hfit⟩)
  have e1 := IntWalk.i64_in (1048576 - (x.B.length : Int)) (by omega)
  have d1 : decide ((1048576 : Int) - (x.B.length : Int) < (R.length : Int)) = false := by simp; omega
  have hle : x.B.length ≤ cb := by assumption
  clear hPe hPP hb0 hbv h hv hfit
  go_enter Tryz.func20, Tryz.ntmps20
  go_upto_region 6 with fail
  have O := OwF.start (fun _ => False) w0.drew
  have gd := dr1s w0
  have GD := Lib.hid gd
  clear gd c0
  refine wp_region_J (rdf [(15, x.t, 1, [(.int .i64 x.safe)])]) [5, 10, 17] (by kernel_rfl) (RdA.cons (F1.out.grown GD.out (by simp)) RdA.nil) (fun hH => ?_)
  refine jp 0 ((.pointer (some ⟨x.t, 0, none⟩))) (Still.all hH) ?_
  simp only [Act.put, jq1, jq4]
  refine jp 1 ((.pointer (some ⟨x.t, 0, none⟩))) (Still.all hH) ?_
  simp only [Act.put, jq1, jq3, jq4, jq5, jq6]
  refine jp 2 ((.pointer (some ⟨x.t, 0, none⟩))) (Still.all hH) ?_
  simp only [Act.put, jq1, jq2, jq3, jq4, jq5, jq6]
  refine jp 3 ((.pointer (some ⟨x.t, 0, none⟩))) (Still.all hH) ?_
  simp only [Act.put, jq1, jq4]
  refine jp 4 ((.pointer (some ⟨x.t, 0, none⟩))) (Still.all hH) ?_
  simp only [Act.put, jq1, jq2, jq3, jq4, jq5, jq6]
  refine jp 6 ((.int .i64 (x.B.length : Int))) (Still.all hH) ?_
  simp only [Act.put, jq1, jq2, jq3, jq4, jq5, jq6]
  refine jp 7 ((.int .i64 (x.B.length : Int))) (Still.all hH) ?_
  simp only [Act.put, jq1, jq2, jq3, jq4, jq5, jq6]
  refine jp 9 ((.slice av R.length cv)) (Still.all hH) ?_
  simp only [Act.put, jq1, jq2, jq3, jq4, jq5, jq6]
  refine jp 11 ((.pointer (some ⟨x.t, 0, none⟩))) (Still.all hH) ?_
  simp only [Act.put, jq1, jq2, jq3, jq4, jq5, jq6]
  refine jp 12 ((.pointer (some ⟨x.t, 0, none⟩))) (Still.all hH) ?_
  simp only [Act.put, jq1, jq2, jq3, jq4, jq5, jq6]
  refine jp 13 ((.pointer (some ⟨x.t, 0, none⟩))) (Still.all hH) ?_
  simp only [Act.put, jq1, jq2, jq3, jq4, jq5, jq6]
  refine jp 14 ((.pointer (some ⟨x.t, 1, none⟩))) (Still.all hH) ?_
  simp only [Act.put, jq1, jq2, jq3, jq4, jq5, jq6]
  refine jr 0 15 ((.int .i64 x.safe)) rfl rfl (yields_cell (by rfl) 3 _ rfl x.t 1 rfl (.int .i64 x.safe) _ (fun W h => h) Tryz.underlying3 rfl) (Still.all hH) ?_
  simp only [Act.put, jq1, jq2, jq3, jq4, jq5, jq6]
  refine wpAnyJ_ready (rs := [5]) (by kernel_rfl) (by simp) ?_
  refine AllJ.keep rfl (by rfl) (by rfl) (fun K hK => ?_) (AllJ.nil)
  refine wp_load_one 27 _ rfl x.t 0 rfl (.slice ab x.B.length cb) _ (F0.out.grown GD.out (by simp)) Tryz.underlying27 rfl ?_
  simp only [Act.put, jq1, jq2, jq3, jq4, jq5, jq6]
  refine hK.out _ _ hH ?_
  clear hK K
  refine jp 8 ((.slice ab x.B.length x.B.length)) (Still.all hH) ?_
  simp only [Act.put, jq1, jq2, jq3, jq4, jq5, jq6]
  refine wpAnyJ_ready (rs := [10]) (by kernel_rfl) (by simp) ?_
  refine AllJ.keep rfl (by rfl) (by rfl) (fun K hK => ?_) (AllJ.nil)
  refine wp_append_full _ _ 27 27 rfl 5 (.int .u8 0) 1 1 Tryz.underlying27 byte_inf rfl ab x.B.length _ rfl (HBF.out.grown (GD.out.trans (O.tch.grown (fun _ h => h.elim)))) _ R.length _ rfl ((HV.out.grown (GD.out.trans (O.tch.grown (fun _ h => h.elim)))).src Tryz.underlying27 (oneCell_bytes _)) HFIT.out.1 (by have := HFIT.out; unfold maxLen; omega) (by have := HFIT.out; omega) ?_
  intro v9 u9 hS g9 o9
  obtain ⟨a9, c9, hv9, _⟩ := hS.shape
  subst hv9
  have HS9 := Lib.hid hS
  replace O := O.call g9
  clear hS o9
  simp only [Act.put, jq1, jq2, jq3, jq4, jq5, jq6]
  refine hK.out _ _ (RdA.grown hH g9) ?_
  replace hH := RdA.grown hH g9
  clear hK K
  clear g9
  refine jp 16 ((.agg [(.slice a9 (x.B.length + R.length) c9), .int .i64 x.safe].toArray)) (Still.all hH) ?_ (hy := (Or.inl ⟨by rfl, fun W _ => run_buildS 72 _ rfl [(0, (.slice a9 (x.B.length + R.length) c9)), (1, .int .i64 x.safe)] (by kernel_rfl) _ (bStep _ _ _ _)⟩))
  simp only [Act.put, jq1, jq2, jq3, jq4, jq5, jq6]
  refine wpAnyJ_ready (rs := [17]) (by kernel_rfl) (by simp) ?_
  refine AllJ.keep rfl (by rfl) (by rfl) (fun K hK => ?_) (AllJ.nil)
  refine wp_call 52 _ _ (by rfl) (enters Tryz.func52 (by kernel_rfl) rfl) (by rfl) (CD.out _ (GD.out.trans (O.tch.grown (fun _ h => h.elim))) _ HS9.out) ?_
  rintro e u ⟨rfl, hr1, hp⟩
  refine ⟨_, rfl, ?_⟩
  have HP := Lib.hid hp
  have HR1 := Lib.hid hr1
  simp only [Act.put, jq1, jq2, jq3, jq4, jq5, jq6]
  refine hK.out _ _ (RdA.cons (i := 15) HR1.out RdA.nil) ?_
  replace hH := (RdA.cons (i := 15) HR1.out RdA.nil)
  clear hK K hr1 hp
  refine jp 18 ((.int .i64 0)) (Still.all hH) ?_
  simp only [Act.put, jq1, jq2, jq3, jq4, jq5, jq6]
  refine wpAnyJ_done (by kernel_rfl) ?_ _
  go_wp2_with fail
  go_ret
  exact ⟨rfl, HP.out⟩

end Go.Proofs.YtcbkehnlgpcelaaGreatDoor
