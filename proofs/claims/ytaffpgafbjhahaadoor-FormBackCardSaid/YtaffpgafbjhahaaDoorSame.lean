/- Walks: nuncioref06.SameSet, SameCommit, SameLight. -/
import Derived.Test.YtaffpgafbjhahaaDoorSlc
import Derived.Test.YtaffpgafbjhahaaDoorEq
import Derived.Test.YtaffpgafbjhahaaDoorEncL
import Derived.Deep.QuietTactic
import Derived.BigQuiet
namespace Go.Proofs.YtaffpgafbjhahaaDoor
open Go.RowKit
set_option maxRecDepth 100000

theorem ret_b {a b : Bool} (h : b = a) : Ending.returned (.bool a) = .returned (.bool b) := by rw [h]
/-- two lists of things are one -/
def sameL {D : Type} (f : D → List Value) (la lb : List D) : Bool := la.length == lb.length && VEq (la.flatMap f) (lb.flatMap f)
theorem sameL_len {D : Type} {f : D → List Value} {la lb : List D} (h : la.length ≠ lb.length) : sameL f la lb = false := by
  unfold sameL; rw [beq_eq_false_iff_ne.2 h, Bool.false_and]
theorem veq_flat_snoc {D : Type} (f : D → List Value) (n : Nat) (la lb : List D) (hl : la.length = lb.length) (ha : ∀ d ∈ la, (f d).length = n) (hb : ∀ d ∈ lb, (f d).length = n) (x y : D) (hx : (f x).length = n) (hy : (f y).length = n) :
    VEq ((la ++ [x]).flatMap f) ((lb ++ [y]).flatMap f) = (VEq (la.flatMap f) (lb.flatMap f) && VEq (f x) (f y)) := by
  rw [List.flatMap_append, List.flatMap_append, VEq.append (by rw [flat_length f n la ha, flat_length f n lb hb, hl])]; simp
theorem veq_take {D : Type} (f : D → List Value) (n : Nat) (la lb : List D) (hl : la.length = lb.length) (ha : ∀ d, (f d).length = n) (k : Nat) (hk : k < la.length) (hk2 : k < lb.length) :
    VEq ((la.take (k + 1)).flatMap f) ((lb.take (k + 1)).flatMap f) = (VEq ((la.take k).flatMap f) ((lb.take k).flatMap f) && VEq (f la[k]) (f lb[k])) := by
  rw [List.take_succ_eq_append_getElem hk, List.take_succ_eq_append_getElem hk2]
  exact veq_flat_snoc f n _ _ (by rw [List.length_take, List.length_take]; omega) (fun d _ => ha d) (fun d _ => ha d) _ _ (ha _) (ha _)
theorem veq_false {D : Type} (f : D → List Value) (n : Nat) (la lb : List D) (hl : la.length = lb.length) (ha : ∀ d, (f d).length = n) (k : Nat) (hk : k < la.length) (hk2 : k < lb.length) (h : VEq (f la[k]) (f lb[k]) = false) : sameL f la lb = false := by
  have e1 : la.flatMap f = (la.take (k + 1)).flatMap f ++ (la.drop (k + 1)).flatMap f := by rw [← List.flatMap_append, List.take_append_drop]
  have e2 : lb.flatMap f = (lb.take (k + 1)).flatMap f ++ (lb.drop (k + 1)).flatMap f := by rw [← List.flatMap_append, List.take_append_drop]
  unfold sameL
  rw [e1, e2, VEq.append, veq_take f n la lb hl ha k hk hk2, h]
  · simp
  · rw [flat_length f n _ (fun d _ => ha d), flat_length f n _ (fun d _ => ha d), List.length_take, List.length_take, hl]
theorem grown_drewN {w w' : World} {row : Option Nat} (h : w.grownBy w' row) (n : Nat) : w.grownBy (w'.drewN n) row := ⟨h.os, h.tape, h.output, h.size, h.block⟩
theorem RdS.slice {B n k : Nat} {w : World} {v : Value} {cs : List Value} (h : RdS B w v n k cs) : ∃ ao c, v = .slice ao n c ∧ c ≤ 9223372036854775807 ∧ n ≤ c ∧ ((ao = none ∧ n = 0 ∧ c = 0) ∨ ∃ g o, ao = some ⟨g, o, none⟩ ∧ g < B ∧ RowAt w g o cs) := by
  obtain ⟨ao, c, h1, h2, h3, _, h5⟩ := h
  exact ⟨ao, c, h1, by unfold maxLen at h3; omega, h2, h5⟩

def kVal : List Value := [.int .u64 0, .int .i64 0]
theorem val_flat : flat Tryd.prog 20 149 = some kVal := by kernel_rfl
theorem ValD.fits (v : ValD) : Fits kVal v.cells = true := rfl
theorem val_neq (x y : ValD) (w : World) : (binOp .neq 149 (.agg #[.int .u64 x.key, .int .i64 x.power]) (.agg #[.int .u64 y.key, .int .i64 y.power])).run Tryd.prog w = .ok (.bool (!VEq x.cells y.cells)) w :=
  (run_eql_flat val_flat x.cells y.cells w x.fits y.fits (by kernel_rfl)).2

set_option maxHeartbeats 1000000 in
theorem SameSet_any {B : Nat} (va vb : Value) (la lb : List ValD) (w : World) (ha : RdS B w va la.length 2 (setCells la)) (hb : RdS B w vb lb.length 2 (setCells lb)) (hB : B ≤ w.heap.size) :
    Calls Tryd.prog 35 #[va, vb] w fun e w' => e = .returned (.bool (sameL ValD.cells la lb)) ∧ w.grownBy w' none := by
  obtain ⟨aa, ca, rfl, hca, hla, hra⟩ := ha.slice
  obtain ⟨ab, cb, rfl, hcb, hlb, hrb⟩ := hb.slice
  have Ra := Lib.hid hra; have Rb := Lib.hid hrb; have HB := Lib.hid hB
  clear ha hb hra hrb hB
  by_cases hl : la.length = lb.length
  case neg =>
    have e := Lib.hid (sameL_len (f := ValD.cells) hl)
    have d1 : ((la.length : Int) != (lb.length : Int)) = true := by rw [bne_iff_ne]; omega
    have d2 : (la.length != lb.length) = true := by simpa using hl
    have d3 : (la.length == lb.length) = false := by simpa using hl
    clear hl
    go_enter Tryd.func35, Tryd.ntmps35
    go_wp2
    go_ret
    exact ⟨ret_b e.out, World.grownBy.refl _ _⟩
  have Hl := Lib.hid hl
  have d1 : ((la.length : Int) != (lb.length : Int)) = false := by rw [bne_eq_false_iff_eq]; omega
  have d2 : (la.length != lb.length) = false := by simpa using hl
  have d3 : (la.length == lb.length) = true := by simpa using hl
  clear hl
  go_enter Tryd.func35, Tryd.ntmps35
  go_wp2
  go_loopw [5] (fun i wr => ∃ k : Nat, k ≤ la.length ∧ i = .int .i64 k ∧ VEq ((la.take k).flatMap ValD.cells) ((lb.take k).flatMap ValD.cells) = true ∧ w.grownBy wr none) (fun i _ => la.length - (intOf i).toNat)
  case atStart => exact ⟨0, Nat.zero_le _, rfl, rfl, World.grownBy.refl _ _⟩
  case round =>
    obtain ⟨k, hk, rfl, he, hg⟩ := hrel
    have He := Lib.hid he; have Hg := Lib.hid hg; clear he hg
    by_cases hlt : k < la.length
    · have hlt2 : k < lb.length := by have := Hl.out; omega
      rcases Ra.out with ⟨_, h0, _⟩ | ⟨g1, o1, rfl, hg1, hr1⟩
      · omega
      rcases Rb.out with ⟨_, h0, _⟩ | ⟨g2, o2, rfl, hg2, hr2⟩
      · omega
      have q1 := RowAt.elem (hr1.grown Hg.out (by simp)) (fun d _ => d.cells_length) k hlt
      have q2 := RowAt.elem (hr2.grown Hg.out (by simp)) (fun d _ => d.cells_length) k hlt2
      have Ht := Lib.hid (veq_take ValD.cells 2 la lb Hl.out (fun d => rfl) k hlt hlt2)
      have Hf := Lib.hid (veq_false ValD.cells 2 la lb Hl.out (fun d => rfl) k hlt hlt2)
      obtain ⟨x, hx⟩ : ∃ x, x = la[k] := ⟨_, rfl⟩
      obtain ⟨y, hy⟩ : ∃ y, y = lb[k] := ⟨_, rfl⟩
      rw [← hx] at q1 Ht Hf
      rw [← hy] at q2 Ht Hf
      have a0 := q1 0 _ rfl; have a1 := q1 1 _ rfl
      have b0 := q2 0 _ rfl; have b1 := q2 1 _ rfl
      rw [Nat.add_zero] at a0 b0
      have hneq := val_neq x y
      cases hv : VEq x.cells y.cells with
      | true =>
        rw [hv] at hneq
        have Hv := Lib.hid hv
        clear q1 q2 hr1 hr2 hx hy hv
        go_wp2
        go_quiet (fail)
        go_wp2
        refine ⟨⟨k + 1, by omega, by go_num, by rw [Ht.out, He.out, Hv.out]; rfl, grown_drewN Hg.out _⟩, by simp [intOf]; omega⟩
      | false =>
        rw [hv] at hneq
        have Hv := Lib.hid (Hf.out hv)
        clear q1 q2 hr1 hr2 hx hy hv
        go_wp2
        go_quiet (fail)
        go_wp2
        go_ret
        exact ⟨ret_b Hv.out, grown_drewN Hg.out _⟩
    · obtain rfl : k = la.length := by omega
      have e : sameL ValD.cells la lb = true := by
        have h := He.out
        rw [List.take_of_length_le (Nat.le_refl _), List.take_of_length_le (by have := Hl.out; omega)] at h
        unfold sameL; rw [h, Hl.out]; simp
      have E := Lib.hid e; clear e
      go_wp2
      go_ret
      exact ⟨ret_b E.out, Hg.out⟩

end Go.Proofs.YtaffpgafbjhahaaDoor
