import Derived.Test.YtdhchehagfmjcaaGreatDoorSlc
import Derived.Test.YtdhchehagfmjcaaGreatDoorPlain6
import Derived.Test.YtdhchehagfmjcaaGreatDoorEncode
import Derived.Deep.QuietTactic
import Derived.BigQuiet
namespace Go.Proofs.YtdhchehagfmjcaaGreatDoor
open Go.RowKit
set_option maxRecDepth 100000
theorem ret_b {a b : Bool} (h : b = a) : Ending.returned (.bool a) = .returned (.bool b) := by rw [h]
def sameL {D : Type} (f : D → List Value) (la lb : List D) : Bool := la.length == lb.length && VEq (la.flatMap f) (lb.flatMap f)
theorem sameL_len {D : Type} {f : D → List Value} {la lb : List D} (h : la.length ≠ lb.length) : sameL f la lb = false := by
 unfold sameL; rw [beq_eq_false_iff_ne.2 h, Bool.false_and]
theorem veq_flat_snoc {D : Type} (f : D → List Value) (n : Nat) (la lb : List D) (hl : la.length = lb.length) (ha : ∀ d ∈ la, (f d).length = n) (hb : ∀ d ∈ lb, (f d).length = n) (x y : D) (_hx : (f x).length = n) (_hy : (f y).length = n) :
  VEq ((la ++ [x]).flatMap f) ((lb ++ [y]).flatMap f) = (VEq (la.flatMap f) (lb.flatMap f) && VEq (f x) (f y)) := by
 rw [List.flatMap_append, List.flatMap_append, VEq.append (by rw [flat_length f n la ha, flat_length f n lb hb, hl])]; simp
theorem veq_take {D : Type} (f : D → List Value) (n : Nat) (la lb : List D) (hl : la.length = lb.length) (ha : ∀ d, (f d).length = n) (k : Nat) (hk : k < la.length) (hk2 : k < lb.length) :
  VEq ((la.take (k + 1)).flatMap f) ((lb.take (k + 1)).flatMap f) = (VEq ((la.take k).flatMap f) ((lb.take k).flatMap f) && VEq (f la[k]) (f lb[k])) := by
 rw [List.take_succ_eq_append_getElem hk, List.take_succ_eq_append_getElem hk2]
 exact veq_flat_snoc f n _ _ (by rw [List.length_take, List.length_take]; omega) (fun d _ => ha d) (fun d _ => ha d) _ _ (ha _) (ha _)
theorem veq_false {D : Type} (f : D → List Value) (n : Nat) (la lb : List D) (hl : la.length = lb.length) (ha : ∀ d, (f d).length = n) (k : Nat) (hk : k < la.length) (hk2 : k < lb.length) (h : VEq (f la[k]) (f lb[k]) = false) : sameL f la lb = false := by
 have e1 : la.flatMap f = (la.take (k + 1)).flatMap f ++ (la.drop (k + 1)).flatMap f := by rw [← List.flatMap_append, List.take_append_drop]
 have e2 : lb.flatMap f = (lb.take (k + 1)).flatMap f ++ (lb.drop (k + 1)).flatMap f := by rw [← List.flatMap_append, List.take_append_drop]
 unfold sameL
 rw [e1, e2, VEq.append, veq_take f n la lb hl ha k hk hk2, h]
 ·simp
 ·rw [flat_length f n _ (fun d _ => ha d), flat_length f n _ (fun d _ => ha d), List.length_take, List.length_take, hl]
theorem grown_drewN {w w' : World} {row : Option Nat} (h : w.grownBy w' row) (n : Nat) : w.grownBy (w'.drewN n) row := ⟨h.os, h.tape, h.output, h.size, h.block⟩
theorem RdS.slice {B n k : Nat} {w : World} {v : Value} {cs : List Value} (h : RdS B w v n k cs) : ∃ ao c, v = .slice ao n c ∧ c ≤ 9223372036854775807 ∧ n ≤ c ∧ (n = 0 ∨ ∃ g o, ao = some ⟨g, o, none⟩ ∧ g < B ∧ RowAt w g o cs) := by
 obtain ⟨ao, c, h1, h2, h3, _, h5⟩ := h
 exact ⟨ao, c, h1, by unfold maxLen at h3; omega, h2, h5⟩
def kVal : List Value := [.int .u64 0, .int .i64 0]
theorem val_flat : flat Tryz.prog 20 115 = some kVal := by kernel_rfl
theorem ValD.fits (v : ValD) : Fits kVal v.cells = true := rfl
theorem val_neq (x y : ValD) (w : World) : (binOp .neq 115 (.agg #[.int .u64 x.key, .int .i64 x.power]) (.agg #[.int .u64 y.key, .int .i64 y.power])).run Tryz.prog w = .ok (.bool (!VEq x.cells y.cells)) w :=
 (run_eql_flat val_flat x.cells y.cells w x.fits y.fits (by kernel_rfl)).2
set_option maxHeartbeats 1000000 in
theorem SameSet_any {B : Nat} (va vb : Value) (la lb : List ValD) (w : World) (ha : RdS B w va la.length 2 (setCells la)) (hb : RdS B w vb lb.length 2 (setCells lb)) (hB : B ≤ w.heap.size) :
  Calls Tryz.prog 116 #[va, vb] w fun e w' => e = .returned (.bool (sameL ValD.cells la lb)) ∧ w.grownBy w' none := by
 obtain ⟨aa, ca, rfl, hca, hla, hra⟩ := ha.slice
 obtain ⟨ab, cb, rfl, hcb, hlb, hrb⟩ := hb.slice
 have Ra := Lib.hid hra; have Rb := Lib.hid hrb; have HB := Lib.hid hB
 clear ha hb hra hrb hB
 by_cases hl : la.length = lb.length
 case neg =>
  have e := Lib.hid (sameL_len (f := ValD.cells) hl)
  have d1 : ((la.length : Int) != (lb.length : Int)) = true := by rw [bne_iff_ne]; omega
  have d2 : (la.length != lb.length) = true := by simpa using hl
  have d3 : (la.length == lb.length) = false := by simpa using hl
  clear hl
  go_enter Tryz.func116, Tryz.ntmps116
  go_wp2
  go_ret
  exact ⟨ret_b e.out, World.grownBy.refl _ _⟩
 have Hl := Lib.hid hl
 have d1 : ((la.length : Int) != (lb.length : Int)) = false := by rw [bne_eq_false_iff_eq]; omega
 have d2 : (la.length != lb.length) = false := by simpa using hl
 have d3 : (la.length == lb.length) = true := by simpa using hl
 clear hl
 go_enter Tryz.func116, Tryz.ntmps116
 go_wp2
 go_loopw [5] (fun i wr => ∃ k : Nat, k ≤ la.length ∧ i = .int .i64 k ∧ VEq ((la.take k).flatMap ValD.cells) ((lb.take k).flatMap ValD.cells) = true ∧ w.grownBy wr none) (fun i _ => la.length - (intOf i).toNat)
 case atStart => exact ⟨0, Nat.zero_le _, rfl, rfl, World.grownBy.refl _ _⟩
 case round =>
  obtain ⟨k, hk, rfl, he, hg⟩ := hrel
  have He := Lib.hid he; have Hg := Lib.hid hg; clear he hg
  by_cases hlt : k < la.length
  ·have hlt2 : k < lb.length := by have := Hl.out; omega
   rcases Ra.out with h0 | ⟨g1, o1, rfl, hg1, hr1⟩
   ·omega
   rcases Rb.out with h0 | ⟨g2, o2, rfl, hg2, hr2⟩
   ·omega
   have q1 := RowAt.elem (hr1.grown Hg.out (by simp)) (fun d _ => d.cells_length) k hlt
   have q2 := RowAt.elem (hr2.grown Hg.out (by simp)) (fun d _ => d.cells_length) k hlt2
   have Ht := Lib.hid (veq_take ValD.cells 2 la lb Hl.out (fun d => rfl) k hlt hlt2)
   have Hf := Lib.hid (veq_false ValD.cells 2 la lb Hl.out (fun d => rfl) k hlt hlt2)
   obtain ⟨x, hx⟩ : ∃ x, x = la[k] := ⟨_, rfl⟩
   obtain ⟨y, hy⟩ : ∃ y, y = lb[k] := ⟨_, rfl⟩
   rw [← hx] at q1 Ht Hf
   rw [← hy] at q2 Ht Hf
   have a0 := q1 0 _ rfl; have a1 := q1 1 _ rfl
   have b0 := q2 0 _ rfl; have b1 := q2 1 _ rfl
   rw [Nat.add_zero] at a0 b0
   have hneq := val_neq x y
   cases hv : VEq x.cells y.cells with
   | true =>
    rw [hv] at hneq
    have Hv := Lib.hid hv
    clear q1 q2 hr1 hr2 hx hy hv
    go_wp2
    go_quiet (fail)
    go_wp2
    refine ⟨⟨k + 1, by omega, by go_num, by rw [Ht.out, He.out, Hv.out]; rfl, grown_drewN Hg.out _⟩, by simp [intOf]; omega⟩
   | false =>
    rw [hv] at hneq
    have Hv := Lib.hid (Hf.out hv)
    clear q1 q2 hr1 hr2 hx hy hv
    go_wp2
    go_quiet (fail)
    go_wp2
    go_ret
    exact ⟨ret_b Hv.out, grown_drewN Hg.out _⟩
  ·obtain rfl : k = la.length := by omega
   have e : sameL ValD.cells la lb = true := by
    have h := He.out
    rw [List.take_of_length_le (Nat.le_refl _), List.take_of_length_le (by have := Hl.out; omega)] at h
    unfold sameL; rw [h, Hl.out]; simp
   have E := Lib.hid e; clear e
   go_wp2
   go_ret
   exact ⟨ret_b E.out, Hg.out⟩
def kSeal : List Value := [.int .u64 0, .int .u64 0, .int .u64 0]
theorem seal_flat : flat Tryz.prog 20 51 = some kSeal := by kernel_rfl
theorem SealD.fits (v : SealD) : Fits kSeal v.cells = true := rfl
theorem seal_neq (x y : SealD) (w : World) : (binOp .neq 51 (.agg #[.int .u64 x.key, .int .u64 x.r, .int .u64 x.s]) (.agg #[.int .u64 y.key, .int .u64 y.r, .int .u64 y.s])).run Tryz.prog w = .ok (.bool (!VEq x.cells y.cells)) w :=
 (run_eql_flat seal_flat x.cells y.cells w x.fits y.fits (by kernel_rfl)).2
def sameCommit (a b : CommitD) : Bool := (a.height == b.height && a.round == b.round) && (VEq (Lib.byteCells a.block) (Lib.byteCells b.block) && sameL SealD.cells a.seals b.seals)
theorem two_boxes (w : World) (xs ys : List Value) (T U : TypeId) : ∃ W, (w.alloc (.cells xs.toArray T)).alloc (.cells ys.toArray U) = W ∧ Blk W w.heap.size xs T ∧ Blk W (w.heap.size + 1) ys U ∧ w.grownBy W none ∧ W.heap.size = w.heap.size + 2 := by
 refine ⟨_, rfl, ?_, ?_, Lib.grownBy_trans (World.grownBy_alloc w _ none) (World.grownBy_alloc _ _ none), by simp⟩
 ·exact (Blk.new w xs T).grown (World.grownBy_alloc _ _ none) (by simp)
 ·have := Blk.new (w.alloc (.cells xs.toArray T)) ys U
  rwa [show (w.alloc (.cells xs.toArray T)).heap.size = w.heap.size + 1 by simp] at this
set_option maxHeartbeats 2000000 in
theorem SameCommit_any {B : Nat} (a b : CommitD) (ca cb : List Value) (w : World) (ha : a.rep B w ca) (hb : b.rep B w cb) (wa : a.wf) (wb : b.wf) (hB : B ≤ w.heap.size) :
  Calls Tryz.prog 115 #[.agg ca.toArray, .agg cb.toArray] w fun e w' => e = .returned (.bool (sameCommit a b)) ∧ w.grownBy w' none := by
 obtain ⟨ah, ar⟩ := commit_cells ha
 obtain ⟨bh, br⟩ := commit_cells hb
 have ab := commit_block ha wa; have bb := commit_block hb wb
 obtain ⟨sa, ra, as_⟩ := commit_seals ha wa
 obtain ⟨sb, rb, bs⟩ := commit_seals hb wb
 obtain ⟨aa, na, rfl, hca, hla, hra⟩ := ra.slice
 obtain ⟨ab2, nb, rfl, hcb, hlb, hrb⟩ := rb.slice
 obtain ⟨W, hW, B1, B2, hg, hs⟩ := two_boxes w ca cb 28 28
 have a0 := B1.row 0 _ ah; rw [Nat.zero_add] at a0
 have a1 := B1.row 1 _ ar; rw [Nat.zero_add] at a1
 have a34 := B1.row 34 _ as_; rw [Nat.zero_add] at a34
 have b0 := B2.row 0 _ bh; rw [Nat.zero_add] at b0
 have b1 := B2.row 1 _ br; rw [Nat.zero_add] at b1
 have b34 := B2.row 34 _ bs; rw [Nat.zero_add] at b34
 have R1 := Lib.hid (show RowAt W w.heap.size 2 (Lib.byteCells a.block) by have := B1.row.part 2 32; rwa [ab, Nat.zero_add] at this)
 have R2 := Lib.hid (show RowAt W (w.heap.size + 1) 2 (Lib.byteCells b.block) by have := B2.row.part 2 32; rwa [bb, Nat.zero_add] at this)
 have HW := Lib.hid hW; have Hg := Lib.hid hg; have Ra := Lib.hid hra; have Rb := Lib.hid hrb; have Wa := Lib.hid wa; have Wb := Lib.hid wb; have HB := Lib.hid hB
 have D1 := Lib.hid B1; have D2 := Lib.hid B2; have As := Lib.hid as_; have Bs := Lib.hid bs
 clear ha hb ah ar bh br ab bb ra rb hra hrb hW B1 B2 hg hs wa wb hB as_ bs
 cases g1 : (a.height == b.height && a.round == b.round) with
 | false =>
  have e := Lib.hid (show sameCommit a b = false by unfold sameCommit; rw [g1, Bool.false_and])
  cases g2 : (a.height == b.height) with
  | false =>
   have d : (a.height != b.height) = true := by rw [bne, g2]; rfl
   clear g1 g2
   go_enter Tryz.func115, Tryz.ntmps115
   go_upto_region 1 with (fail)
   rw [HW.out]
   go_wp2
   go_ret
   exact ⟨ret_b e.out, Hg.out⟩
  | true =>
   rw [g2, Bool.true_and] at g1
   have d : (a.height != b.height) = false := by rw [bne, g2]; rfl
   have d2 : (a.round != b.round) = true := by rw [bne, g1]; rfl
   clear g1 g2
   go_enter Tryz.func115, Tryz.ntmps115
   go_upto_region 1 with (fail)
   rw [HW.out]
   go_wp2
   go_ret
   exact ⟨ret_b e.out, Hg.out⟩
 | true =>
  have G1 := Lib.hid g1
  rw [Bool.and_eq_true] at g1
  have d : (a.height != b.height) = false := by rw [bne, g1.1]; rfl
  have d2 : (a.round != b.round) = false := by rw [bne, g1.2]; rfl
  clear g1
  cases g3 : VEq (Lib.byteCells a.block) (Lib.byteCells b.block) with
  | false =>
   have e := Lib.hid (show sameCommit a b = false by unfold sameCommit; rw [g3]; simp)
   go_enter Tryz.func115, Tryz.ntmps115
   go_upto_region 1 with (fail)
   rw [HW.out]
   go_wp2_with (first
    | (refine wpList_load_part rfl 23 _ rfl w.heap.size 2 rfl (Lib.byteCells a.block) _ R1.out Tryz.underlying23 rfl (hash_size _ Wa.out.block) ?_)
    | (refine wpList_load_part rfl 23 _ rfl (w.heap.size + 1) 2 rfl (Lib.byteCells b.block) _ R2.out Tryz.underlying23 rfl (hash_size _ Wb.out.block) ?_)
    | (refine wpList_neq_flat rfl 23 _ _ _ rfl (Lib.byteCells a.block) (Lib.byteCells b.block) kHash rfl rfl hash_flat (hash_fits _ Wa.out.block) (hash_fits _ Wb.out.block) rfl (by kernel_rfl) ?_))
   go_ret
   exact ⟨ret_b e.out, Hg.out⟩
  | true =>
   have G3 := Lib.hid g3
   by_cases hl : a.seals.length = b.seals.length
   case neg =>
    have e := Lib.hid (show sameCommit a b = false by unfold sameCommit; rw [sameL_len hl]; simp)
    have d3 : ((a.seals.length : Int) != (b.seals.length : Int)) = true := by rw [bne_iff_ne]; omega
    have d4 : (a.seals.length != b.seals.length) = true := by simpa using hl
    have d5 : (a.seals.length == b.seals.length) = false := by simpa using hl
    clear hl
    go_enter Tryz.func115, Tryz.ntmps115
    go_upto_region 1 with (fail)
    rw [HW.out]
    go_wp2_with (first
     | (refine wpList_load_part rfl 23 _ rfl w.heap.size 2 rfl (Lib.byteCells a.block) _ R1.out Tryz.underlying23 rfl (hash_size _ Wa.out.block) ?_)
     | (refine wpList_load_part rfl 23 _ rfl (w.heap.size + 1) 2 rfl (Lib.byteCells b.block) _ R2.out Tryz.underlying23 rfl (hash_size _ Wb.out.block) ?_)
     | (refine wpList_neq_flat rfl 23 _ _ _ rfl (Lib.byteCells a.block) (Lib.byteCells b.block) kHash rfl rfl hash_flat (hash_fits _ Wa.out.block) (hash_fits _ Wb.out.block) rfl (by kernel_rfl) ?_))
    go_ret
    exact ⟨ret_b e.out, Hg.out⟩
   have Hl := Lib.hid hl
   have d3 : ((a.seals.length : Int) != (b.seals.length : Int)) = false := by rw [bne_eq_false_iff_eq]; omega
   have d4 : (a.seals.length != b.seals.length) = false := by simpa using hl
   have d5 : (a.seals.length == b.seals.length) = true := by simpa using hl
   clear hl
   go_enter Tryz.func115, Tryz.ntmps115
   go_upto_region 1 with (fail)
   rw [HW.out]
   go_wp2_with (first
    | (refine wpList_load_part rfl 23 _ rfl w.heap.size 2 rfl (Lib.byteCells a.block) _ R1.out Tryz.underlying23 rfl (hash_size _ Wa.out.block) ?_)
    | (refine wpList_load_part rfl 23 _ rfl (w.heap.size + 1) 2 rfl (Lib.byteCells b.block) _ R2.out Tryz.underlying23 rfl (hash_size _ Wb.out.block) ?_)
    | (refine wpList_neq_flat rfl 23 _ _ _ rfl (Lib.byteCells a.block) (Lib.byteCells b.block) kHash rfl rfl hash_flat (hash_fits _ Wa.out.block) (hash_fits _ Wb.out.block) rfl (by kernel_rfl) ?_))
   clear a0 a1 a34 b0 b1 b34 g3 d d2
   go_loopw [5] (fun i wr => ∃ k : Nat, k ≤ a.seals.length ∧ i = .int .i64 k ∧ VEq ((a.seals.take k).flatMap SealD.cells) ((b.seals.take k).flatMap SealD.cells) = true ∧ W.grownBy wr none) (fun i _ => a.seals.length - (intOf i).toNat)
   case atStart => exact ⟨0, Nat.zero_le _, rfl, rfl, World.grownBy.refl _ _⟩
   case round =>
    obtain ⟨k, hk, rfl, he, hg⟩ := hrel
    have He := Lib.hid he; have Hgr := Lib.hid hg; clear he hg
    have a34 := (D1.out.grown Hgr.out (by simp)).row 34 _ As.out; rw [Nat.zero_add] at a34
    have b34 := (D2.out.grown Hgr.out (by simp)).row 34 _ Bs.out; rw [Nat.zero_add] at b34
    by_cases hlt : k < a.seals.length
    ·have hlt2 : k < b.seals.length := by have := Hl.out; omega
     rcases Ra.out with h0 | ⟨g1, o1, rfl, hg1, hr1⟩
     ·omega
     rcases Rb.out with h0 | ⟨g2, o2, rfl, hg2, hr2⟩
     ·omega
     have q1 := RowAt.elem ((hr1.grown Hg.out (by simp)).grown Hgr.out (by simp)) (fun d _ => d.cells_length) k hlt
     have q2 := RowAt.elem ((hr2.grown Hg.out (by simp)).grown Hgr.out (by simp)) (fun d _ => d.cells_length) k hlt2
     have Ht := Lib.hid (veq_take SealD.cells 3 a.seals b.seals Hl.out (fun d => rfl) k hlt hlt2)
     have Hf := Lib.hid (veq_false SealD.cells 3 a.seals b.seals Hl.out (fun d => rfl) k hlt hlt2)
     obtain ⟨x, hx⟩ : ∃ x, x = a.seals[k] := ⟨_, rfl⟩
     obtain ⟨y, hy⟩ : ∃ y, y = b.seals[k] := ⟨_, rfl⟩
     rw [← hx] at q1 Ht Hf
     rw [← hy] at q2 Ht Hf
     have x0 := q1 0 _ rfl; have x1 := q1 1 _ rfl; have x2 := q1 2 _ rfl
     have y0 := q2 0 _ rfl; have y1 := q2 1 _ rfl; have y2 := q2 2 _ rfl
     rw [Nat.add_zero] at x0 y0
     have hneq := seal_neq x y
     cases hv : VEq x.cells y.cells with
     | true =>
      rw [hv] at hneq
      have Hv := Lib.hid hv
      clear q1 q2 hr1 hr2 hx hy hv
      go_wp2
      go_quiet (fail)
      go_wp2
      refine ⟨⟨k + 1, by omega, by go_num, by rw [Ht.out, He.out, Hv.out]; rfl, grown_drewN Hgr.out _⟩, by simp [intOf]; omega⟩
     | false =>
      rw [hv] at hneq
      have Hv := Lib.hid (show sameCommit a b = false by unfold sameCommit; rw [Hf.out hv]; simp)
      clear q1 q2 hr1 hr2 hx hy hv
      go_wp2
      go_quiet (fail)
      go_wp2
      go_ret
      exact ⟨ret_b Hv.out, grown_drewN (Lib.grownBy_trans Hg.out Hgr.out) _⟩
    ·obtain rfl : k = a.seals.length := by omega
     have e : sameCommit a b = true := by
      have h := He.out
      rw [List.take_of_length_le (Nat.le_refl _), List.take_of_length_le (by have := Hl.out; omega)] at h
      unfold sameCommit sameL; rw [h, Hl.out, G1.out, G3.out]; simp
     have E := Lib.hid e; clear e
     go_wp2
     go_ret
     exact ⟨ret_b E.out, Lib.grownBy_trans Hg.out Hgr.out⟩
def sameLight (a b : LightD) : Bool := VEq a.header.cells b.header.cells && (sameCommit a.commit b.commit && (sameL ValD.cells a.set b.set && sameL ValD.cells a.next b.next))
def kHeader : List Value := [.string ⟨#[]⟩, .int .i64 0, .int .i64 0] ++ List.replicate 160 (.int .u8 0)
theorem header_flat : flat Tryz.prog 20 25 = some kHeader := by kernel_rfl
theorem HeaderD.fits (v : HeaderD) (h : v.wf) : Fits kHeader v.cells = true := by
 have e : v.cells = [.string v.chain, .int .i64 v.height, .int .i64 v.time] ++ Lib.byteCells (v.last ++ v.set ++ v.next ++ v.data ++ v.app) := by simp [HeaderD.cells, Lib.byteCells]
 have hb := Fits.bytes (v.last ++ v.set ++ v.next ++ v.data ++ v.app)
 rw [show (v.last ++ v.set ++ v.next ++ v.data ++ v.app).length = 160 by simp [h.last, h.set, h.next, h.data, h.app]] at hb
 rw [e]
 exact Fits.append rfl hb
theorem rep_grown {B : Nat} {w w' : World} {c : CommitD} {cs : List Value} (h : c.rep B w cs) (hg : w.grownBy w' none) : c.rep B w' cs := by obtain ⟨sl, h1, h2⟩ := h; exact ⟨sl, h1.grown hg, h2⟩
set_option maxHeartbeats 2000000 in
theorem SameLight_any {B : Nat} (a b : LightD) (ca cb : List Value) (w : World) (ha : a.rep B w ca) (hb : b.rep B w cb) (wa : a.wf) (wb : b.wf) (hB : B ≤ w.heap.size) :
  Calls Tryz.prog 78 #[.agg ca.toArray, .agg cb.toArray] w fun e w' => e = .returned (.bool (sameLight a b)) ∧ w.grownBy w' none := by
 obtain ⟨a1, ⟨cca, a2, a3⟩, ⟨sva, a4, a5⟩, ⟨nva, a6, a7⟩⟩ := LightD.parts ha wa
 obtain ⟨b1, ⟨ccb, b2, b3⟩, ⟨svb, b4, b5⟩, ⟨nvb, b6, b7⟩⟩ := LightD.parts hb wb
 obtain ⟨sa, sn, rfl⟩ := a4.shape
 obtain ⟨na, nn, rfl⟩ := a6.shape
 obtain ⟨sa', sn', rfl⟩ := b4.shape
 obtain ⟨na', nn', rfl⟩ := b6.shape
 obtain ⟨W, hW, B1, B2, hg, hs⟩ := two_boxes w ca cb 31 31
 have A1 := Lib.hid a1; have A2 := Lib.hid a2; have A3 := Lib.hid a3; have A4 := Lib.hid a4; have A5 := Lib.hid a5; have A6 := Lib.hid a6; have A7 := Lib.hid a7
 have C1 := Lib.hid b1; have C2 := Lib.hid b2; have C3 := Lib.hid b3; have C4 := Lib.hid b4; have C5 := Lib.hid b5; have C6 := Lib.hid b6; have C7 := Lib.hid b7
 have HW := Lib.hid hW; have Hg := Lib.hid hg; have Wa := Lib.hid wa; have Wb := Lib.hid wb; have HB := Lib.hid hB
 have D1 := Lib.hid B1; have D2 := Lib.hid B2
 clear a1 a2 a3 a4 a5 a6 a7 b1 b2 b3 b4 b5 b6 b7 ha hb wa wb hB hW B1 B2 hg hs
 have R1 := Lib.hid (show RowAt W w.heap.size 163 cca by have := D1.out.row.part 163 35; rwa [A3.out, Nat.zero_add] at this)
 have R2 := Lib.hid (show RowAt W (w.heap.size + 1) 163 ccb by have := D2.out.row.part 163 35; rwa [C3.out, Nat.zero_add] at this)
 go_enter Tryz.func78, Tryz.ntmps78
 go_upto_region 1 with (fail)
 rw [HW.out]
 go_wp2_with (first
  | (refine wpList_load_part rfl 28 _ rfl w.heap.size 163 rfl cca _ R1.out Tryz.underlying28 rfl (by rw [A2.out.length Wa.out.commit]; exact sizeCommit) ?_)
  | (refine wpList_load_part rfl 28 _ rfl (w.heap.size + 1) 163 rfl ccb _ R2.out Tryz.underlying28 rfl (by rw [C2.out.length Wb.out.commit]; exact sizeCommit) ?_))
 refine (SameCommit_any a.commit b.commit cca ccb W (rep_grown A2.out Hg.out) (rep_grown C2.out Hg.out) Wa.out.commit Wb.out.commit (Nat.le_trans HB.out Hg.out.size)).mono ?_
 rintro e w2 ⟨rfl, g2⟩
 have G := Lib.hid (Lib.grownBy_trans Hg.out g2)
 replace D1 := Lib.hid (D1.out.grown g2 (by simp)); replace D2 := Lib.hid (D2.out.grown g2 (by simp))
 have c1 := D1.out.row 198 _ A5.out; rw [Nat.zero_add] at c1
 have c2 := D2.out.row 198 _ C5.out; rw [Nat.zero_add] at c2
 clear g2 R1 R2
 go_wp2_with fail
 refine (SameSet_any _ _ a.set b.set w2 (A4.out.grown G.out) (C4.out.grown G.out) (Nat.le_trans HB.out G.out.size)).mono ?_
 rintro e w3 ⟨rfl, g3⟩
 replace G := Lib.hid (Lib.grownBy_trans G.out g3)
 replace D1 := Lib.hid (D1.out.grown g3 (by simp)); replace D2 := Lib.hid (D2.out.grown g3 (by simp))
 clear c1 c2 g3
 have c1 := D1.out.row 199 _ A7.out; rw [Nat.zero_add] at c1
 have c2 := D2.out.row 199 _ C7.out; rw [Nat.zero_add] at c2
 go_wp2_with fail
 refine (SameSet_any _ _ a.next b.next w3 (A6.out.grown G.out) (C6.out.grown G.out) (Nat.le_trans HB.out G.out.size)).mono ?_
 rintro e w4 ⟨rfl, g3⟩
 replace G := Lib.hid (Lib.grownBy_trans G.out g3)
 replace D1 := Lib.hid (D1.out.grown g3 (by simp)); replace D2 := Lib.hid (D2.out.grown g3 (by simp))
 clear c1 c2 g3
 have R1 := Lib.hid (show RowAt w4 w.heap.size 0 a.header.cells by have := D1.out.row.part 0 163; rwa [List.drop_zero, A1.out] at this)
 have R2 := Lib.hid (show RowAt w4 (w.heap.size + 1) 0 b.header.cells by have := D2.out.row.part 0 163; rwa [List.drop_zero, C1.out] at this)
 obtain ⟨x1, hx1⟩ : ∃ x, sameCommit a.commit b.commit = x := ⟨_, rfl⟩
 obtain ⟨x2, hx2⟩ : ∃ x, sameL ValD.cells a.set b.set = x := ⟨_, rfl⟩
 obtain ⟨x3, hx3⟩ : ∃ x, sameL ValD.cells a.next b.next = x := ⟨_, rfl⟩
 rw [hx1, hx2, hx3]
 cases hv : VEq a.header.cells b.header.cells with
 | false =>
  have E := Lib.hid (show sameLight a b = false by unfold sameLight; rw [hv]; simp)
  clear hx1 hx2 hx3
  go_wp2_with (first
   | (refine wpList_load_part rfl 25 _ rfl w.heap.size 0 rfl a.header.cells _ R1.out Tryz.underlying25 rfl (a.header.size Wa.out.header) ?_)
   | (refine wpList_load_part rfl 25 _ rfl (w.heap.size + 1) 0 rfl b.header.cells _ R2.out Tryz.underlying25 rfl (b.header.size Wb.out.header) ?_)
   | (refine wpList_eql_flat rfl 25 _ _ _ rfl a.header.cells b.header.cells kHeader rfl rfl header_flat (a.header.fits Wa.out.header) (b.header.fits Wb.out.header) rfl (by kernel_rfl) ?_))
  go_ret
  exact ⟨ret_b E.out, G.out⟩
 | true =>
  have E := Lib.hid (show sameLight a b = (x1 && (x2 && x3)) by unfold sameLight; rw [hv, hx1, hx2, hx3]; simp)
  clear hx1 hx2 hx3
  cases x1 <;> cases x2 <;> cases x3 <;>
  (go_wp2_with (first
   | (refine wpList_load_part rfl 25 _ rfl w.heap.size 0 rfl a.header.cells _ R1.out Tryz.underlying25 rfl (a.header.size Wa.out.header) ?_)
   | (refine wpList_load_part rfl 25 _ rfl (w.heap.size + 1) 0 rfl b.header.cells _ R2.out Tryz.underlying25 rfl (b.header.size Wb.out.header) ?_)
   | (refine wpList_eql_flat rfl 25 _ _ _ rfl a.header.cells b.header.cells kHeader rfl rfl header_flat (a.header.fits Wa.out.header) (b.header.fits Wb.out.header) rfl (by kernel_rfl) ?_))
   go_ret
   exact ⟨ret_b E.out, G.out⟩)
end Go.Proofs.YtdhchehagfmjcaaGreatDoor
