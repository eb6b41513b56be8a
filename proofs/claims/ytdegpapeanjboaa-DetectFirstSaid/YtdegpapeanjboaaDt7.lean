/- Walk: detect.keys of no seal (the rest). -/
import Derived.Test.YtdegpapeanjboaaDt6
namespace Go.Proofs.Ytdegpapeanjboaa
open Go.RowKit
set_option maxRecDepth 100000

set_option maxHeartbeats 1000000 in
theorem insertion_nil (w : World) : Calls Try.prog 32 #[.slice none 0 0, .int .i64 0, .int .i64 0] w fun e w' => e = .returned (.tuple #[]) ∧ w = w' := by
  go_enter Try.func32, Try.ntmps32
  go_wp2
  go_loop [6] (fun i => i = .int .i64 1) (fun _ => 0)
  case atStart => rfl
  case round =>
    obtain rfl := hrel
    go_wp2
    first | go_end0 | refine bodyPost_ret (results_none rfl _ _ _) rfl ?_
    exact ⟨rfl, rfl⟩
set_option maxHeartbeats 1000000 in
theorem len_nil (w : World) : Calls Try.prog 31 #[.int .u64 0] w fun e w' => e = .returned (.int .i64 0) ∧ w = w' := by
  go_enter Try.func31, Try.ntmps31
  go_wp2
  go_ret
  exact ⟨by kernel_rfl, rfl⟩
set_option maxHeartbeats 1000000 in
theorem pdq_nil (w : World) : Calls Try.prog 30 #[.slice none 0 0, .int .i64 0, .int .i64 0, .int .i64 0] w fun e w' => e = .returned (.tuple #[]) ∧ w = w' := by
  go_enter Try.func30, Try.ntmps30
  go_wp2_with fail
  go_loop [1, 2, 3] (fun a b l => a = .int .i64 0 ∧ b = .int .i64 0 ∧ l = .int .i64 0) (fun _ _ _ => 0)
  case atStart => exact ⟨rfl, rfl, rfl⟩
  case round =>
    obtain ⟨rfl, rfl, rfl⟩ := hrel
    go_wp2_with (go_at_call 32; refine (insertion_nil _).mono ?_; rintro e w' ⟨rfl, rfl⟩)
    first | go_end0 | refine bodyPost_ret (results_none rfl _ _ _) rfl ?_
    exact ⟨rfl, rfl⟩
set_option maxHeartbeats 1000000 in
theorem sort_nil (w : World) : Calls Try.prog 27 #[.slice none 0 0] w fun e w' => e = .returned (.tuple #[]) ∧ w = w' := by
  go_enter Try.func27, Try.ntmps27
  go_wp2_with (first | (go_at_call 31; refine (len_nil _).mono ?_; rintro e w' ⟨rfl, rfl⟩) | (go_at_call 30; refine (pdq_nil _).mono ?_; rintro e w' ⟨rfl, rfl⟩))
  first | go_end0 | refine bodyPost_ret (results_none rfl _ _ _) rfl ?_
  exact ⟨rfl, rfl⟩
set_option maxHeartbeats 1000000 in
theorem collect_nil (bm mb : Nat) (w : World) (hc : w.cell? ⟨bm, 0, none⟩ = some (.map (some mb))) (hm : EmptyMap w mb) :
    Calls Try.prog 26 #[.func (.func 28) #[] #[.pointer (some ⟨bm, 0, none⟩)]] w fun e w' => e = .returned (.slice none 0 0) ∧ w.grownBy w' none := by
  have C := Lib.hid (appendSeq_nil bm mb w hc hm)
  clear hc hm
  go_enter Try.func26, Try.ntmps26
  go_wp2_with fail
  refine C.out.mono ?_
  rintro e w1 ⟨rfl, g1⟩
  have G := Lib.hid g1
  clear g1
  go_wp2_with fail
  go_ret
  exact ⟨rfl, G.out⟩
set_option maxHeartbeats 1000000 in
theorem sorted_nil (bm mb : Nat) (w : World) (hc : w.cell? ⟨bm, 0, none⟩ = some (.map (some mb))) (hm : EmptyMap w mb) :
    Calls Try.prog 23 #[.func (.func 28) #[] #[.pointer (some ⟨bm, 0, none⟩)]] w fun e w' => e = .returned (.slice none 0 0) ∧ w.grownBy w' none := by
  have C := Lib.hid (collect_nil bm mb w hc hm)
  clear hc hm
  go_enter Try.func23, Try.ntmps23
  go_wp2_with fail
  refine C.out.mono ?_
  rintro e w1 ⟨rfl, g1⟩
  have G := Lib.hid g1
  clear g1
  go_wp2_with fail
  refine (sort_nil w1).mono ?_
  rintro e w' ⟨rfl, rfl⟩
  go_wp2_with fail
  go_ret
  exact ⟨rfl, G.out⟩

set_option maxHeartbeats 1000000 in
theorem Keys_nil (mb : Nat) (w : World) : Calls Try.prog 24 #[.map (some mb)] w fun e w' => e = .returned (.func (.func 28) #[] #[.pointer (some ⟨w.heap.size, 0, none⟩)]) ∧ w.grownBy w' none ∧ w'.cell? ⟨w.heap.size, 0, none⟩ = some (.map (some mb)) := by
  have hmf : ∀ (fn : Fn) (first cap : Array Value) (w : World), (Instr.makeFunc fn first cap).run Try.prog w = .ok (.func fn first cap) w := fun _ _ _ _ => rfl
  have hg := World.grownBy_alloc w (.cells #[.map (some mb)] 64) none
  have hc := (Blk.new w [.map (some mb)] 64).row 0 _ rfl
  rw [Nat.zero_add] at hc
  have G := Lib.hid hg; have C := Lib.hid hc
  clear hg hc
  go_enter Try.func24, Try.ntmps24
  go_wp2_with fail
  go_ret
  exact ⟨rfl, G.out, C.out⟩

def cmCells : List Value := [.int .i64 0, .int .i64 0] ++ Lib.byteCells (List.replicate 32 0) ++ [.slice none 0 0]

set_option maxHeartbeats 4000000 in
theorem keys_nil (f : Value) (w : World) : Calls Try.prog 15 #[.agg cmCells.toArray, f] w fun e w' => e = .returned (.slice none 0 0) ∧ w.grownBy w' none := by
  have hmm := @run_makeMap Try.prog
  have hmf : ∀ (fn : Fn) (first cap : Array Value) (w : World), (Instr.makeFunc fn first cap).run Try.prog w = .ok (.func fn first cap) w := fun _ _ _ _ => rfl
  go_enter Try.func15, Try.ntmps15
  go_wp2_with (refine wpList_box_as rfl 35 _ rfl cmCells rfl ?_)
  intro w1 b1 g1 s1
  have c34 := b1.row 34 _ rfl
  rw [Nat.zero_add] at c34
  have B1 := Lib.hid b1; have G1 := Lib.hid g1
  obtain ⟨cb, hcb⟩ : ∃ b, w.heap.size = b := ⟨_, rfl⟩
  rw [hcb] at c34 ⊢
  clear b1 g1 s1 hcb
  go_upto_region 2 with (fail)
  obtain ⟨W2, hW2⟩ : ∃ W2, w1.alloc (.map #[] 0) = W2 := ⟨_, rfl⟩
  have hem : EmptyMap W2 w1.heap.size := by rw [← hW2]; exact World.ownsMap_made w1 _ _ _
  have hg2 : w1.grownBy W2 none := hW2 ▸ World.grownBy_alloc w1 _ none
  have c2 := hg2.cell (a := ⟨cb, 34, none⟩) c34 (by simp)
  obtain ⟨mb, hmb⟩ : ∃ b, w1.heap.size = b := ⟨_, rfl⟩
  rw [hW2, hmb]
  rw [hmb] at hem
  have EM := Lib.hid hem; have G2 := Lib.hid (Lib.grownBy_trans G1.out hg2)
  clear hW2 hem hg2 hmb hmm c34 G1 B1
  go_wp2_with fail
  go_loop [12] (fun i => i = .int .i64 0) (fun _ => 0)
  case atStart => rfl
  case round =>
    obtain rfl := hrel
    go_wp2_with fail
    refine (Keys_nil mb _).mono ?_
    rintro e w3 ⟨rfl, g3, hc3⟩
    have G3 := Lib.hid (Lib.grownBy_trans G2.out g3); have EM3 := Lib.hid (show EmptyMap w3 mb from (show W2.ownsMap Try.prog 46 mapR mb 0 (.map []) from EM.out).kept g3 (by simp)); have HC3 := Lib.hid hc3
    obtain ⟨bx, hbx⟩ : ∃ b, W2.heap.size = b := ⟨_, rfl⟩
    rw [hbx] at HC3 ⊢
    clear g3 hc3 hbx EM G2 c2
    go_wp2_with fail
    refine (sorted_nil bx mb w3 HC3.out EM3.out).mono ?_
    rintro e w4 ⟨rfl, g4⟩
    have G4 := Lib.hid (Lib.grownBy_trans G3.out g4)
    clear g4
    go_wp2_with fail
    go_ret
    exact ⟨rfl, G4.out⟩

end Go.Proofs.Ytdegpapeanjboaa
