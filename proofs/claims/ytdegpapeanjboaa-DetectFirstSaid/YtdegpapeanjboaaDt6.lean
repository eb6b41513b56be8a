/- Walk: detect.keys of no seal. -/
import Derived.Test.YtdegpapeanjboaaDt5
import Derived.Maps.RangeWalk
import Derived.Maps.OwnSet
import Derived.RangeFuncIn
import Derived.RangeFuncOwn
import Derived.RangeFuncCalls
import Derived.RangeFuncLeaves
import Derived.RangeFuncBound
import Derived.OwnWalkIn
import Derived.TacticsInMore
import Derived.LoopNIn
import Derived.LoopIn
import Derived.CallsIn
namespace Go.Proofs.Ytdegpapeanjboaa
open Go.RowKit
set_option maxRecDepth 100000

noncomputable def mapR : Value → Option (DataW Unit × List MemPlace) := plainElem Try.prog 3
theorem u64_keyed : Maps.Keyed Try.prog 46 := Maps.int_keyed Try.underlying46
def EmptyMap (w : World) (b : Nat) : Prop := w.ownsMap Try.prog 46 mapR b 0 (.map [])

set_option maxHeartbeats 1000000 in
theorem keys1_nil (y : Value) (bm mb : Nat) (w : World) (hc : w.cell? ⟨bm, 0, none⟩ = some (.map (some mb))) (hm : EmptyMap w mb) :
    Calls Try.prog 28 #[y, .pointer (some ⟨bm, 0, none⟩)] w fun e w' => e = .returned (.tuple #[]) ∧ w.grownBy w' none := by
  have HM := Lib.hid (show w.ownsMap Try.prog 46 mapR mb 0 (.map []) from hm)
  clear hm
  go_enter Try.func28, Try.ntmps28
  go_wp2_with (at_range; refine wpList_range_own _ rfl _ 64 rfl 46 3 u64_keyed Try.underlying64 _ mb 0 _ rfl HM.out ?_)
  intro w1 r1 g1 s1
  have R1 := Lib.hid r1; have G1 := Lib.hid g1
  obtain ⟨rb, hrb⟩ : ∃ b, w.heap.size = b := ⟨_, rfl⟩
  rw [hrb] at R1 ⊢
  clear r1 g1 s1 hrb hc
  go_wp2_with fail
  go_loopw [6] (fun _ wr => wr = w1) (fun _ _ => 0)
  case atStart => rfl
  case round =>
    obtain rfl := hrel
    go_wp2_with (at_next; refine wpList_next_ranges_ii _ rfl _ rfl 46 3 .u64 .i64 u64_keyed Try.underlying46 Try.underlying3 mb rb 0 _ _ _ rfl R1.out ?_ ?_)
    · intro _ _
      go_wp2_with fail
      first | go_end0 | refine bodyPost_ret (results_none rfl _ _ _) rfl ?_
      exact ⟨rfl, G1.out⟩
    · intro x c w' cnt' _ _ hl
      simp [Maps.has] at hl

theorem grown_put (W : World) (l : Nat) (o : Obj) : W.grownBy (W.putObj l o) (some l) :=
  ⟨rfl, rfl, rfl, by simp, fun k _ hk => World.putObj_heap_other (fun e => hk (by rw [e]))⟩

theorem wpIn_rangeFunc_empty {P : Program} {n : Nat} {g : Operand} {ps : Array Tmp} {assign body : Code} {Q : Exit → Act → World → Prop} {a : Act} {w : World} {gf : FuncId} {lb : Array Value}
    (hg : a.eval g = .func (.func gf) #[] lb) (eg : ∀ args w, (callFunc gf args).run P w = .ok (.enter gf args) w) (hn : 1 ≤ n)
    (hcall : ∀ y W, w.grownBy W none → Calls P gf (#[y] ++ lb) W fun e W' => e = .returned (.tuple #[]) ∧ W.grownBy W' none)
    (h : ∀ W, w.grownBy W none → W.heap[w.heap.size]? = some (.deferred (some [])) → Q .normal { a with defers := { target := .collected w.heap.size, args := #[] } :: a.defers } W) :
    (Code.rangeFunc g ps assign body).wpIn Fence.wide n P Q a w := by
  refine wpIn_rangeFunc ?_
  intro fn hfn
  rw [show Fence.wide.round = none from rfl]
  obtain ⟨rec, hrec⟩ : ∃ r : Loop, r = { state := .ready, pending := none, fn, tmps := a.tmps, params := ps, assign, body, defers := w.heap.size } := ⟨_, rfl⟩
  obtain ⟨W1, hW1⟩ : ∃ W1, (w.alloc (.deferred (some []))).alloc (.loop rec) = W1 := ⟨_, rfl⟩
  have hg1 : w.grownBy W1 none := by rw [← hW1]; exact Lib.grownBy_trans (World.grownBy_alloc w _ none) (World.grownBy_alloc _ _ none)
  have hL1 : W1.heap[w.heap.size + 1]? = some (.loop rec) := by
    rw [← hW1]; have := World.alloc_heap_new (w.alloc (.deferred (some []))) (.loop rec); rwa [World.size_alloc] at this
  have hK1 : W1.heap[w.heap.size]? = some (.deferred (some [])) := by
    rw [← hW1]; exact (Below.heap_alloc _ _ _ (by simp)).trans (World.alloc_heap_new w _)
  refine ⟨w.heap.size + 1, [{ target := .collected w.heap.size, args := #[] }], W1, { target := .fn (.func gf) lb, args := #[.func (.yield (w.heap.size + 1)) #[] #[]] }, W1, gf,
    #[.func (.yield (w.heap.size + 1)) #[] #[]] ++ lb, W1, ?_, ?_, ?_, ?_, fun _ => hn, ?_⟩
  · rw [← hW1, hrec]; exact run_enterLoop_outer _ _ _ _ _
  · simp only [resolve, hg]
    simp [go_sem]
  · intro f' hf'; trivial
  · simp [invoke, go_sem, eg]
  · refine (callsIn_wide.2 (hcall _ W1 hg1)).mono ?_
    rintro e W2 ⟨rfl, g2⟩
    have hL2 : W2.heap[w.heap.size + 1]? = some (.loop rec) := (g2.block _ (Array.getElem?_eq_some_iff.1 hL1).1 (by simp)).trans hL1
    have hK2 : W2.heap[w.heap.size]? = some (.deferred (some [])) := (g2.block _ (Array.getElem?_eq_some_iff.1 hK1).1 (by simp)).trans hK1
    have hp : rec.pending = none := by rw [hrec]
    refine ⟨none, _, by rw [← hp]; exact run_endLoop hL2 (by rw [hrec]; simp), ?_⟩
    refine h _ ?_ ((World.putObj_heap_other (by omega)).trans hK2)
    exact grown_new (Lib.grownBy_trans hg1 g2) (grown_put W2 _ _) (Nat.le_succ _)

set_option maxHeartbeats 2000000 in
theorem appendSeq_nil (bm mb : Nat) (w : World) (hc : w.cell? ⟨bm, 0, none⟩ = some (.map (some mb))) (hm : EmptyMap w mb) :
    Calls Try.prog 29 #[.slice none 0 0, .func (.func 28) #[] #[.pointer (some ⟨bm, 0, none⟩)]] w fun e w' => e = .returned (.slice none 0 0) ∧ w.grownBy w' none := by
  have HM := Lib.hid (show ∀ W, w.grownBy W none → EmptyMap W mb from fun W g => (show w.ownsMap Try.prog 46 mapR mb 0 (.map []) from hm).kept g (by simp))
  have HC := Lib.hid (show ∀ W, w.grownBy W none → W.cell? ⟨bm, 0, none⟩ = some (.map (some mb)) from fun W g => g.cell (a := ⟨bm, 0, none⟩) hc (by simp))
  clear hm hc
  refine (callsIn_wide (n := 6)).1 ?_
  refine callsIn_of_wp_marks Try.func29 rfl trivial ?_ rfl
  simp only [Try.ntmps29, List.size_toArray, List.length_cons, List.length_nil, Nat.reduceAdd, Nat.reduceSub, Array.replicate_succ, Array.replicate_zero, List.push_toArray, List.append_toArray, List.nil_append, List.cons_append]
  gi_wp2
  obtain ⟨W0, hW0⟩ : ∃ W0, w.alloc (.cells #[.slice none 0 0] 40) = W0 := ⟨_, rfl⟩
  have hg0 : w.grownBy W0 none := hW0 ▸ World.grownBy_alloc w _ none
  have hb0 : Blk W0 w.heap.size [.slice none 0 0] 40 := hW0 ▸ Blk.new w [.slice none 0 0] _
  have hlt := hb0.lt
  rw [hW0]
  refine wpIn_rangeFunc_empty rfl (enters_of Try.func28 (by kernel_rfl) rfl) (by decide) (fun y W g => keys1_nil y bm mb W (HC.out W (Lib.grownBy_trans hg0 g)) (HM.out W (Lib.grownBy_trans hg0 g))) ?_
  intro W2 g2 hK
  have c2 := (hb0.grown g2 (by simp)).row 0 _ rfl
  rw [Nat.zero_add] at c2
  have G2 := Lib.hid (Lib.grownBy_trans hg0 g2)
  have Hl := Lib.hid (show w.heap.size ≤ W0.heap.size by omega)
  have HK := Lib.hid hK
  clear hW0 hg0 hb0 hlt g2 hK
  gi_wp2
  refine ⟨by simp, .inl ⟨_, _, rfl, run_takeDeferred HK.out, ?_⟩⟩
  exact ⟨_, results_tmp rfl _ _ _, rfl, grown_new G2.out (grown_put W2 _ _) Hl.out⟩

end Go.Proofs.Ytdegpapeanjboaa
