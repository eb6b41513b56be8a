/- Walks: a log that is made safe; a log on a tape without bytes. -/
import Derived.Test.YtcbkehnlgpcelaaGreatDoorSg3
import Derived.RangeFuncIn
import Derived.RangeFuncOwn
import Derived.RangeFuncCalls
import Derived.RangeFuncLeaves
import Derived.RangeFuncBound
import Derived.OwnWalkIn
import Derived.TacticsInMore
import Derived.LoopNIn
import Derived.LoopIn
import Derived.CallsIn
namespace Go.Proofs.YtcbkehnlgpcelaaGreatDoor
open Go.RowKit
set_option maxRecDepth 100000

theorem grown_put (W : World) (l : Nat) (o : Obj) : W.grownBy (W.putObj l o) (some l) :=
  ⟨rfl, rfl, rfl, by simp, fun k _ hk => World.putObj_heap_other (fun e => hk (by rw [e]))⟩

theorem wpIn_rangeFunc_empty {P : Program} {n : Nat} {g : Operand} {ps : Array Tmp} {assign body : Code} {Q : Exit → Act → World → Prop} {a : Act} {w : World} {gf : FuncId} {lb : Array Value}
    (hg : a.eval g = .func (.func gf) #[] lb) (eg : ∀ args w, (callFunc gf args).run P w = .ok (.enter gf args) w) (hn : 1 ≤ n)
    (hcall : ∀ y W, w.grownBy W none → Calls P gf (#[y] ++ lb) W fun e W' => e = .returned (.tuple #[]) ∧ W.grownBy W' none)
    (h : ∀ W, w.grownBy W none → W.heap[w.heap.size]? = some (.deferred (some [])) → Q .normal { a with defers := { target := .collected w.heap.size, args := #[] } :: a.defers } W) :
    (Code.rangeFunc g ps assign body).wpIn Fence.wide n P Q a w := by
  refine wpIn_rangeFunc ?_
  intro fn hfn
  rw [show Fence.wide.round = none from rfl]
  obtain ⟨rec, hrec⟩ : ∃ r : Loop, r = { state := .ready, pending := none, fn, tmps := a.tmps, params := ps, assign, body, defers := w.heap.size } := ⟨_, rfl⟩
  obtain ⟨W1, hW1⟩ : ∃ W1, (w.alloc (.deferred (some []))).alloc (.loop rec) = W1 := ⟨_, rfl⟩
  have hg1 : w.grownBy W1 none := by rw [← hW1]; exact Lib.grownBy_trans (World.grownBy_alloc w _ none) (World.grownBy_alloc _ _ none)
  have hL1 : W1.heap[w.heap.size + 1]? = some (.loop rec) := by
    rw [← hW1]; have := World.alloc_heap_new (w.alloc (.deferred (some []))) (.loop rec); rwa [World.size_alloc] at this
  have hK1 : W1.heap[w.heap.size]? = some (.deferred (some [])) := by
    rw [← hW1]; exact (Below.heap_alloc _ _ _ (by simp)).trans (World.alloc_heap_new w _)
  refine ⟨w.heap.size + 1, [{ target := .collected w.heap.size, args := #[] }], W1, { target := .fn (.func gf) lb, args := #[.func (.yield (w.heap.size + 1)) #[] #[]] }, W1, gf,
    #[.func (.yield (w.heap.size + 1)) #[] #[]] ++ lb, W1, ?_, ?_, ?_, ?_, fun _ => hn, ?_⟩
  · rw [← hW1, hrec]; exact run_enterLoop_outer _ _ _ _ _
  · simp only [resolve, hg]
    simp [go_sem]
  · intro f' hf'; trivial
  · simp [invoke, go_sem, eg]
  · refine (callsIn_wide.2 (hcall _ W1 hg1)).mono ?_
    rintro e W2 ⟨rfl, g2⟩
    have hL2 : W2.heap[w.heap.size + 1]? = some (.loop rec) := (g2.block _ (Array.getElem?_eq_some_iff.1 hL1).1 (by simp)).trans hL1
    have hK2 : W2.heap[w.heap.size]? = some (.deferred (some [])) := (g2.block _ (Array.getElem?_eq_some_iff.1 hK1).1 (by simp)).trans hK1
    have hp : rec.pending = none := by rw [hrec]
    refine ⟨none, _, by rw [← hp]; exact run_endLoop hL2 (by rw [hrec]; simp), ?_⟩
    refine h _ ?_ ((World.putObj_heap_other (by omega)).trans hK2)
    exact grown_new (Lib.grownBy_trans hg1 g2) (grown_put W2 _ _) (Nat.le_succ _)

theorem wpList_load_one {P : Program} {ops : Array Oper} {rest : List Oper} {o : Oper} {a : Act} {w : World} {Q : Exit → Act → World → Prop} (hgd : Region.wanted o (yielded ops a.tmps) = true) (ty : TypeId) (x : Operand) (ho : o.op = .load ty x) (g k : Nat) (hx : a.eval x = .pointer (some ⟨g, k, none⟩)) (v : Value) (d : TypeDesc) (hr : RowAt w g k [v])
    (hu : P.underlying ty = some d) (hd : (match d with | .struct _ | .array _ _ => true | _ => false) = false) (h : wpList P ops Q rest (a.put o.dst v) w) : wpList P ops Q (o :: rest) a w :=
  wpList_wanted hgd fun _K hK => wp_load_one ty x ho g k hx v d hr hu hd (hK _ _ h)
set_option maxHeartbeats 4000000 in
theorem lgSync_ok {w0 : World} {y : LgP} (h : LgRep w0 y) (hns : y.x.ns ≤ 100000) :
    Calls Tryz.prog 70 #[.pointer (some ⟨y.l, 0, none⟩)] w0 fun e w' => e = .returned (.int .i64 0) ∧ ∃ sv, LgPost w0 y (y.synced sv) w' := by
  have hb0 := h.blk
  have CS := Lib.hid (fun w (t : Tch (fun b => b = y.l) w0 w) => tpSync_ok (h.tape.ty_keep t (Ty.one h.blk) (by decide) (by decide) (by decide)) hns)
  obtain ⟨a9, c9, hrv, _⟩ := h.recs.shape
  unfold LgP.cells at hb0
  rw [hrv] at hb0
  have H := Lib.hid h; have HB := Lib.hid hb0; have HRV := Lib.hid hrv
  have O := (OwF.start (fun b => b = y.l) w0).add hb0 rfl (by simp)
  clear h hb0 hrv
  go_enter Tryz.func70, Tryz.ntmps70
  go_wp2_with (first | ((with_reducible refine @wpList_at _ _ _ _ _ _ _ (.load 61 (.tmp 8)) rfl ?_); refine @wpList_of_cell _ _ _ _ _ _ _ _ _ _ 61 (.tmp 8) rfl O 0 y.l 1 rfl _ _ rfl (.slice a9 y.nr c9) rfl _ Tryz.underlying61 rfl rfl ?_) | ((with_reducible refine @wpList_at _ _ _ _ _ _ _ (.store 3 (.tmp 12) (.tmp 10)) rfl ?_); refine @wpList_of_store_cell _ _ _ _ _ _ _ _ _ _ 3 (.tmp 12) (.tmp 10) rfl O 0 y.l 2 rfl (.int .i64 (y.nr : Int)) rfl (by kernel_rfl) _ _ rfl (by show (2 : Nat) < 3; decide) rfl rfl ?_; clear O; intro w O; simp only [List.set_cons_zero, List.set_cons_succ] at O) | ((with_reducible refine @wpList_at _ _ _ _ _ _ _ (.load 30 (.tmp 15)) rfl ?_); refine @wpList_of_cell _ _ _ _ _ _ _ _ _ _ 30 (.tmp 15) rfl O 0 y.l 0 rfl _ _ rfl (.pointer (some ⟨y.x.t, 0, none⟩)) rfl _ Tryz.underlying30 rfl rfl ?_))
  refine (CS.out _ O.tch).mono ?_
  rintro e w9 ⟨rfl, sv, hp⟩
  have HP := Lib.hid hp
  clear hp
  go_wp2_with fail
  go_ret
  have T1 := HP.out.2.1
  have ht := H.out.tape.ty_keep O.tch (Ty.one HB.out) (by decide) (by decide) (by decide)
  refine ⟨rfl, sv, ⟨?_, HP.out.1, ?_, H.out.nrc, H.out.src, fun r hr => ((H.out.each r hr).ty_keep O.tch (Ty.one HB.out) (by decide)).ty_keep T1 ht.tys (by decide)⟩, (O.tch.mono (fun b hb _ => .inl hb)).trans T1 (fun b hb _ => .inr (.inl hb)), fun b hb => ?_⟩
  · have := (O.at_ 0 rfl).ty_keep T1 ht.tys (by decide)
    unfold LgP.synced LgP.cells
    dsimp only
    rw [HRV.out]
    exact this
  · exact (H.out.recs.ty_keep O.tch (Ty.one HB.out) (by decide)).ty_keep T1 ht.tys (by decide)
  · rcases hb with hb | hb | hb
    · exact .inl (.inl hb)
    · exact (HP.out.2.2.2 b hb).imp (fun h => .inr (.inl h)) (Nat.le_trans O.tch.size)
    · exact .inl (.inr (.inr hb))

theorem frames1_nil (y : Value) (b : Nat) (w : World) (hb : Blk w b [.slice none 0 0] 27) :
    Calls Tryz.prog 127 #[y, .pointer (some ⟨b, 0, none⟩)] w fun e w' => e = .returned (.tuple #[]) ∧ w.grownBy w' none := by
  have hc : w.cell? ⟨b, 0, none⟩ = some (.slice none 0 0) := hb.row 0 _ rfl
  clear hb
  go_enter Tryz.func127, Tryz.ntmps127
  go_wp2_with fail
  go_loopw [5] (fun _ wr => wr = w) (fun _ _ => 0)
  case atStart => rfl
  case round =>
    obtain rfl := hrel
    go_wp2_with fail
    first | go_end0 | refine bodyPost_ret (results_none rfl _ _ _) rfl ?_
    exact ⟨rfl, World.grownBy.refl _ _⟩
theorem frames_nil (w0 : World) : Calls Tryz.prog 91 #[.slice none 0 0] w0 fun e w' => ∃ b, e = .returned (.func (.func 127) #[] #[.pointer (some ⟨b, 0, none⟩)]) ∧ Blk w' b [.slice none 0 0] 27 ∧ w0.grownBy w' none := by
  have hmf : ∀ (fn : Fn) (first cap : Array Value) (w : World), (Instr.makeFunc fn first cap).run Tryz.prog w = .ok (.func fn first cap) w := fun _ _ _ _ => rfl
  go_enter Tryz.func91, Tryz.ntmps91
  go_wp2_with fail
  go_ret
  exact ⟨_, rfl, Blk.new w0 [.slice none 0 0] _, World.grownBy_alloc w0 _ none⟩
/-- what a body that ranges over a function leaves, where it does not panic -/
def bodyPostR (P : Program) (fn : Func) (R : Ending → World → Prop) : Exit → Act → World → Prop
  | .normal, a, w | .ret, a, w => LeavesInM Fence.wide 6 P fn a.tmps R a.defers .returning w
  | _, _, _ => False
theorem calls_of_range {P : Program} {f : FuncId} {fn : Func} {c : Code} {args : Array Value} {w : World} {R : Ending → World → Prop} (hf : P.funcs[f]? = some fn) (hb : fn.body = some c)
    (h : c.wp P (bodyPostR P fn R) { tmps := args ++ Array.replicate (fn.ntmps - args.size) undef, defers := [] } w) : Calls P f args w R :=
  (callsIn_wide (n := 6)).1 (callsIn_of_wp_marks hf hb trivial (wpIn_wide.2 (wp_mono h (by intro e a w h; cases e <;> first | exact h | exact h.elim))) rfl)
set_option maxHeartbeats 2000000 in
theorem scan_nil (w0 : World) : Calls Tryz.prog 61 #[.slice none 0 0] w0 fun e w' => e = .returned (.tuple #[.slice none 0 0, .int .i64 0]) ∧ w0.grownBy w' none := by
  refine calls_of_range Tryz.func61 rfl ?_
  simp only [Tryz.ntmps61, List.size_toArray, List.length_cons, List.length_nil, Nat.reduceAdd, Nat.reduceSub, Array.replicate_succ, Array.replicate_zero, List.push_toArray, List.append_toArray, List.nil_append, List.cons_append]
  have O := OwF.start (fun _ => False) w0
  go_wp2_with (first | ((with_reducible refine @wpList_at _ _ _ _ _ _ _ (.alloc 61) rfl ?_); refine @wpList_of_alloc _ _ _ _ _ _ _ _ _ _ 61 rfl [.slice none 0 0] (by kernel_rfl) O rfl ?_; clear O; intro b4 w O) | ((with_reducible refine @wpList_at _ _ _ _ _ _ _ (.alloc 3) rfl ?_); refine @wpList_of_alloc _ _ _ _ _ _ _ _ _ _ 3 rfl [.int .i64 0] (by kernel_rfl) O rfl ?_; clear O; intro b5 w O) | ((with_reducible refine @wpList_at _ _ _ _ _ _ _ (.store 3 (.tmp 5) _) rfl ?_); refine @wpList_of_store_cell _ _ _ _ _ _ _ _ _ _ 3 (.tmp 5) _ rfl O 0 b5 0 rfl (.int .i64 0) rfl (by kernel_rfl) _ _ rfl (by show (0 : Nat) < 1; decide) rfl rfl ?_; clear O; intro w O; simp only [List.set_cons_zero] at O))
  refine (frames_nil w).mono ?_
  rintro e w6 ⟨bb, rfl, hb6, g6⟩
  replace O := O.call g6
  have HB6 := Lib.hid hb6; have HW6 := Lib.hid O.tch.size
  clear hb6 g6
  go_wp2_with fail
  refine (wpIn_wide (n := 6)).1 (wpIn_rangeFunc_empty rfl (enters_of Tryz.func127 (by kernel_rfl) rfl) (by decide) (fun y W g => frames1_nil y bb W (HB6.out.grown g (by simp))) ?_)
  intro W2 g2 hK
  replace O := O.call g2
  have G2 := Lib.hid g2; have HK := Lib.hid hK
  clear g2 hK
  go_upto_region 7 with fail
  replace O := O.drew
  refine wp_region_J (rdf [(0, b4, 0, [(.slice none 0 0)]), (1, b5, 0, [(.int .i64 0)])]) [] (by kernel_rfl) (RdA.cons (O.cellr (n := 1) rfl rfl) (RdA.cons (O.cellr (n := 0) rfl rfl) RdA.nil)) (fun hH => ?_)
  refine jr 0 0 ((.slice none 0 0)) rfl rfl (yields_cell (by rfl) 61 _ rfl b4 0 rfl (.slice none 0 0) _ (fun W h => h) Tryz.underlying61 rfl) (Still.all hH) ?_
  simp only [Act.put, jq1, jq3, jq4, jq5, jq6]
  refine jr 1 1 ((.int .i64 0)) rfl rfl (yields_cell (by rfl) 3 _ rfl b5 0 rfl (.int .i64 0) _ (fun W h => h) Tryz.underlying3 rfl) (Still.all hH) ?_
  simp only [Act.put, jq1, jq2, jq3, jq4, jq5, jq6]
  refine jp 2 ((.slice none 0 0)) (Still.all hH) ?_
  simp only [Act.put, jq1, jq2, jq3, jq4, jq5, jq6]
  refine jp 3 ((.int .i64 0)) (Still.all hH) ?_
  simp only [Act.put, jq1, jq2, jq3, jq4, jq5, jq6]
  refine wpAnyJ_done (by kernel_rfl) ?_ _
  clear hH
  go_wp2_with fail
  refine ⟨by simp, .inl ⟨_, _, rfl, run_takeDeferred HK.out, ?_⟩⟩
  exact ⟨_, results_tmp2 rfl _ _ _, ⟨rfl, grown_new (O.tch.grown (fun _ h => h.elim)) (grown_put _ _ _) HW6.out⟩⟩
theorem bClone_nil (w0 : World) : Calls Tryz.prog 55 #[.slice none 0 0] w0 fun e w' => e = .returned (.slice none 0 0) ∧ w0.grownBy w' none := by
  have hq := nil_yes
  go_enter Tryz.func55, Tryz.ntmps55
  go_wp2_with fail
  go_ret
  exact ⟨rfl, World.grownBy.refl _ _⟩
theorem bLog0 (b : Nat) : Tryz.prog.built 113 [(0, .pointer (some ⟨b, 0, none⟩))] = some [.pointer (some ⟨b, 0, none⟩), .slice none 0 0, .int .i64 0].toArray := by kernel_rfl
theorem read_nil {w0 : World} {b : Nat} (h : TpRep w0 (.new b)) : Calls Tryz.prog 25 #[.pointer (some ⟨b, 0, none⟩)] w0 fun e w' => e = .returned (.slice none 0 0) ∧ w0.grownBy w' none := by
  have c0 : w0.cell? ⟨b, 0, none⟩ = some (.slice none 0 0) := h.blk.row 0 _ rfl
  clear h
  go_enter Tryz.func25, Tryz.ntmps25
  go_wp2_with fail
  refine (bClone_nil w0).mono ?_
  rintro e w ⟨rfl, g⟩
  go_wp2_with fail
  go_ret
  exact ⟨rfl, g⟩
/-- a log that has just been opened on a new tape -/
def LgP.new (b l : Nat) (sv : Value) : LgP := ⟨l, (TpP.new b).next (.slice none 0 0) [] 0 sv, .slice none 0 0, 0, [], 0, []⟩
set_option maxHeartbeats 4000000 in
theorem lgOpen_ok {w0 : World} {b : Nat} (h : TpRep w0 (.new b)) :
    Calls Tryz.prog 30 #[.pointer (some ⟨b, 0, none⟩)] w0 fun e w' => ∃ l sv, e = .returned (.tuple #[.pointer (some ⟨l, 0, none⟩), .int .i64 0]) ∧ LgRep w' (.new b l sv) ∧ Tch (fun k => k = b) w0 w' ∧ ∀ k, (LgP.new b l sv).foot k → k = b ∨ w0.heap.size ≤ k := by
  have CR := Lib.hid (read_nil h)
  have H := Lib.hid h
  have O := OwF.start (fun _ => False) w0
  clear h
  go_enter Tryz.func30, Tryz.ntmps30
  go_wp2_with fail
  refine CR.out.mono ?_
  rintro e w ⟨rfl, g⟩
  replace O := O.call g
  clear g
  go_wp2_with (first | ((with_reducible refine @wpList_at _ _ _ _ _ _ _ (.build 113 #[(0, .tmp 11)]) rfl ?_); refine wpList_build_eq rfl 113 _ rfl [(0, .pointer (some ⟨b, 0, none⟩))] (by kernel_rfl) [.pointer (some ⟨b, 0, none⟩), .slice none 0 0, .int .i64 0] (bLog0 b) ?_) | ((with_reducible refine @wpList_at _ _ _ _ _ _ _ (.box 113 (.tmp 12)) rfl ?_); refine @wpList_of_box _ _ _ _ _ _ _ _ _ _ 113 (.tmp 12) rfl [.pointer (some ⟨b, 0, none⟩), .slice none 0 0, .int .i64 0] rfl O rfl ?_; clear O; intro b5 w O))
  refine (scan_nil w).mono ?_
  rintro e w ⟨rfl, g⟩
  replace O := O.call g
  clear g
  go_wp2_with (first | ((with_reducible refine @wpList_at _ _ _ _ _ _ _ (.store 61 (.tmp 21) _) rfl ?_); refine @wpList_of_store_cell _ _ _ _ _ _ _ _ _ _ 61 (.tmp 21) _ rfl O 0 b5 1 rfl (.slice none 0 0) rfl (by kernel_rfl) _ _ rfl (by show (1 : Nat) < 3; decide) rfl rfl ?_; clear O; intro w O; simp only [List.set_cons_zero, List.set_cons_succ] at O) | ((with_reducible refine @wpList_at _ _ _ _ _ _ _ (.load 61 (.tmp 25)) rfl ?_); refine @wpList_of_cell _ _ _ _ _ _ _ _ _ _ 61 (.tmp 25) rfl O 0 b5 1 rfl _ _ rfl (.slice none 0 0) rfl _ Tryz.underlying61 rfl rfl ?_) | ((with_reducible refine @wpList_at _ _ _ _ _ _ _ (.store 3 (.tmp 29) _) rfl ?_); refine @wpList_of_store_cell _ _ _ _ _ _ _ _ _ _ 3 (.tmp 29) _ rfl O 0 b5 2 rfl (.int .i64 0) rfl (by kernel_rfl) _ _ rfl (by show (2 : Nat) < 3; decide) rfl rfl ?_; clear O; intro w O; simp only [List.set_cons_zero, List.set_cons_succ] at O))
  have ht := H.out.grown (O.tch.grown (fun _ h => h.elim))
  refine (tpSync_ok ht (by show (0 : Nat) ≤ 100000; decide)).mono ?_
  rintro e w9 ⟨rfl, sv, hp⟩
  have HP := Lib.hid hp
  clear hp
  go_wp2_with fail
  go_ret2
  have T1 := HP.out.2.1
  have hl5 := (O.lie 0 rfl).resolve_right id
  refine ⟨b5, sv, rfl, ⟨(O.at_ 0 rfl).ty_keep T1 ht.tys (by decide), HP.out.1, SRow.nil _ _ _, rfl, rfl, fun _ h => by cases h⟩, (O.tch.mono (fun _ h _ => h.elim)).trans T1 (fun k hk _ => ?_), fun k hk => ?_⟩
  · rcases hk with hk | hk
    · exact hk
    · cases hk
  · rcases hk with hk | hk | hk
    · exact .inr (hk ▸ hl5)
    · rcases HP.out.2.2.2 k hk with (hk | hk) | hk
      · exact .inl hk
      · cases hk
      · exact .inr (Nat.le_trans O.tch.size hk)
    · cases hk
theorem values_nil (w0 : World) : Calls Tryz.prog 64 #[.slice none 0 0] w0 fun e w' => ∃ b, e = .returned (.func (.func 92) #[] #[.pointer (some ⟨b, 0, none⟩)]) ∧ Blk w' b [.slice none 0 0] 61 ∧ w0.grownBy w' none := by
  have hmf : ∀ (fn : Fn) (first cap : Array Value) (w : World), (Instr.makeFunc fn first cap).run Tryz.prog w = .ok (.func fn first cap) w := fun _ _ _ _ => rfl
  go_enter Tryz.func64, Tryz.ntmps64
  go_wp2_with fail
  go_ret
  exact ⟨_, rfl, Blk.new w0 [.slice none 0 0] _, World.grownBy_alloc w0 _ none⟩
theorem values1_nil (y : Value) (b : Nat) (w : World) (hb : Blk w b [.slice none 0 0] 61) :
    Calls Tryz.prog 92 #[y, .pointer (some ⟨b, 0, none⟩)] w fun e w' => e = .returned (.tuple #[]) ∧ w.grownBy w' none := by
  have hc : w.cell? ⟨b, 0, none⟩ = some (.slice none 0 0) := hb.row 0 _ rfl
  clear hb
  go_enter Tryz.func92, Tryz.ntmps92
  go_wp2_with fail
  go_loopw [7] (fun v wr => v = .int .i64 0 ∧ wr = w) (fun _ _ => 0)
  case atStart => exact ⟨rfl, rfl⟩
  case round =>
    obtain ⟨rfl, rfl⟩ := hrel
    go_wp2_with fail
    first | go_end0 | refine bodyPost_ret (results_none rfl _ _ _) rfl ?_
    exact ⟨rfl, World.grownBy.refl _ _⟩
set_option maxHeartbeats 2000000 in
theorem records_nil {w0 : World} {l : Nat} (h : RowAt w0 l 1 [.slice none 0 0]) : Calls Tryz.prog 31 #[.pointer (some ⟨l, 0, none⟩)] w0 fun e w' => e = .returned (.slice none 0 0) ∧ w0.grownBy w' none := by
  refine calls_of_range Tryz.func31 rfl ?_
  simp only [Tryz.ntmps31, List.size_toArray, List.length_cons, List.length_nil, Nat.reduceAdd, Nat.reduceSub, Array.replicate_succ, Array.replicate_zero, List.push_toArray, List.append_toArray, List.nil_append, List.cons_append]
  have O := OwF.start (fun _ => False) w0
  have H := Lib.hid h
  clear h
  go_wp2_with (first | ((with_reducible refine @wpList_at _ _ _ _ _ _ _ (.alloc 61) rfl ?_); refine @wpList_of_alloc _ _ _ _ _ _ _ _ _ _ 61 rfl [.slice none 0 0] (by kernel_rfl) O rfl ?_; clear O; intro b4 w O) | ((with_reducible refine @wpList_at _ _ _ _ _ _ _ (.load 61 (.tmp 9)) rfl ?_); refine wpList_load_one rfl 61 _ rfl l 1 rfl (.slice none 0 0) _ (H.out.grown (O.tch.grown (fun _ h => h.elim)) (by simp)) Tryz.underlying61 rfl ?_))
  refine (values_nil w).mono ?_
  rintro e w6 ⟨bb, rfl, hb6, g6⟩
  replace O := O.call g6
  have HB6 := Lib.hid hb6; have HW6 := Lib.hid O.tch.size
  clear hb6 g6
  go_wp2_with fail
  refine (wpIn_wide (n := 6)).1 (wpIn_rangeFunc_empty rfl (enters_of Tryz.func92 (by kernel_rfl) rfl) (by decide) (fun y W g => values1_nil y bb W (HB6.out.grown g (by simp))) ?_)
  intro W2 g2 hK
  replace O := O.call g2
  have G2 := Lib.hid g2; have HK := Lib.hid hK
  clear g2 hK
  go_wp2_with (first | ((with_reducible refine @wpList_at _ _ _ _ _ _ _ (.load 61 (.tmp 3)) rfl ?_); refine @wpList_of_cell _ _ _ _ _ _ _ _ _ _ 61 (.tmp 3) rfl O 0 b4 0 rfl _ _ rfl (.slice none 0 0) rfl _ Tryz.underlying61 rfl rfl ?_))
  refine ⟨by simp, .inl ⟨_, _, rfl, run_takeDeferred HK.out, ?_⟩⟩
  exact ⟨_, results_tmp rfl _ _ _, ⟨rfl, grown_new (O.tch.grown (fun _ h => h.elim)) (grown_put _ _ _) HW6.out⟩⟩

end Go.Proofs.YtcbkehnlgpcelaaGreatDoor
