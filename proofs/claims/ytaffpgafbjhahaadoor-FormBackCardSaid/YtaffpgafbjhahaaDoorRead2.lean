/- Walks: wire.read at uint64, int and string. -/
import Derived.Test.YtaffpgafbjhahaaDoorRead
import Derived.Recover
import Derived.Deep.Cut
import Derived.Deep.CutRange
namespace Go.Proofs.YtaffpgafbjhahaaDoor
open Go.RowKit
set_option maxRecDepth 100000

/-- a reading that goes well: it gives v, and l is left -/
def DoOk (F : FuncId) (cap : Array Value) (w : World) (v : Value) (p : Nat) (l : List UInt8) : Prop :=
  ∀ w1, w.grownBy w1 none → Calls Tryd.prog F cap w1 fun e w2 => e = .returned v ∧ w1.grownBy w2 (some p) ∧ IsR w2 p (some l)
/-- one that is broken off: bytes are missing -/
def DoMiss (F : FuncId) (cap : Array Value) (w : World) (p : Nat) : Prop :=
  ∀ w1, w.grownBy w1 none → Calls Tryd.prog F cap w1 fun e w2 => e = .panicked missingP ∧ w1.grownBy w2 (some p) ∧ ∃ l, IsR w2 p (some l)

theorem below_grown {w w' : World} (h : Below w.heap.size w w') : w.grownBy w' none := ⟨h.os, h.tape, h.output, h.size, fun k hk _ => h.block k hk⟩
theorem grown_none {w w' : World} {row : Option Nat} (h : w.grownBy w' none) : w.grownBy w' row := ⟨h.os, h.tape, h.output, h.size, fun k hk _ => h.block k hk (by simp)⟩
theorem One.grown {w w' : World} {m : Nat} {x : Value} {row : Option Nat} (h : One w m x) (hg : w.grownBy w' row) (hne : some m ≠ row) : One w' m x :=
  ⟨hg.cell h.1 hne, (frozen_grown hg (World.block_lt_of_cell? w ⟨m, 0, none⟩ h.1) hne).trans h.2⟩
theorem One.set {w : World} {m : Nat} {x : Value} (h : One w m x) (y : Value) : One (w.setCell ⟨m, 0, none⟩ y) m y :=
  ⟨World.cell?_setCell_same' _ _ _ (by rw [h.1]; rfl), by simpa using h.2⟩
theorem One.other {w : World} {m p i : Nat} {x y : Value} (h : One w m x) (hne : m ≠ p) : One (w.setCell ⟨p, i, none⟩ y) m x :=
  ⟨(World.cell?_setCell_other _ _ _ _ (by simp <;> intro e <;> exact absurd e.symm hne)).trans h.1, by simpa using h.2⟩
/-- the reader breaks -/
theorem IsR.breaks {w : World} {p : Nat} {l : List UInt8} (h : IsR w p (some l)) : IsR (w.setCell ⟨p, 1, none⟩ (.bool true)) p none := by
  obtain ⟨f0, f1, h3, ao, c, h4, _⟩ := h
  exact ⟨by simpa using f0, by simpa using f1, ⟨ao, _, c, (World.cell?_setCell_other _ _ _ _ (by simp)).trans h4⟩, World.cell?_setCell_same' _ _ _ (by rw [h3]; rfl)⟩
theorem IsR.other {w : World} {p m i : Nat} {st : Option (List UInt8)} (h : IsR w p st) (hne : p < m) (y : Value) : IsR (w.setCell ⟨m, i, none⟩ y) p st := by
  have hc : ∀ j, (w.setCell ⟨m, i, none⟩ y).cell? ⟨p, j, none⟩ = w.cell? ⟨p, j, none⟩ := fun j => World.cell?_setCell_other _ _ _ _ (by simp <;> omega)
  obtain ⟨f0, f1, h⟩ := h
  refine ⟨by simpa using f0, by simpa using f1, ?_⟩
  cases st with
  | none => obtain ⟨⟨ao, n, c, h3⟩, h4⟩ := h; exact ⟨⟨ao, n, c, (hc 0).trans h3⟩, (hc 1).trans h4⟩
  | some l =>
    obtain ⟨h3, ao, c, h4, h5, h6, h7⟩ := h
    refine ⟨(hc 1).trans h3, ao, c, (hc 0).trans h4, h5, h6, ?_⟩
    rcases h7 with h7 | ⟨g, o, e, hp, hr⟩
    · exact Or.inl h7
    · exact Or.inr ⟨g, o, e, hp, hr.other (by omega) _⟩

/-- a store into a new block -/
theorem grown_trans' {w w1 : World} {p m : Nat} {row : Option Nat} (h : w.grownBy w1 row) (hm : w.heap.size ≤ m) (y : Value) (hrow : row = none ∨ row = some p := by simp) : w.grownBy (w1.setCell ⟨m, 0, none⟩ y) (some p) := by
  refine ⟨h.os, h.tape, h.output, by have := h.size; simpa [World.setCell] using this, fun k hk hne => ?_⟩
  rw [Below.heap_setCell _ _ _ _ (by simp; omega)]
  refine h.block k hk ?_
  rcases hrow with rfl | rfl
  · simp
  · exact hne

set_option maxHeartbeats 400000 in
theorem readCatchW_panicking (m k p : Nat) (x : Value) (l : List UInt8) (w : World) (h1 : One w m (.pointer (some ⟨p, 0, none⟩))) (h2 : One w k x) (hr : IsR w p (some l)) (hpk : p ≠ k) :
    CallsD Tryd.prog 143 #[.pointer (some ⟨m, 0, none⟩), .pointer (some ⟨k, 0, none⟩)] (.panicking missingP) w fun e u' w' =>
      e = .returned (.tuple #[]) ∧ u' = .panicking [{ v := .iface 192 (.agg #[]), recovered := true }] ∧ ∃ w1, Below w.heap.size w w1 ∧ w' = (w1.setCell ⟨p, 1, none⟩ (.bool true)).setCell ⟨k, 0, none⟩ (.int .u64 0) := by
  have ta : ∀ w, (Instr.typeAssert (.iface 192 (.agg #[])) 20 192 true).run Tryd.prog w = .ok (.tuple #[.agg #[], .bool true]) w := fun _ => by kernel_rfl
  obtain ⟨w1, hw1⟩ : ∃ w1, w.alloc (.cells #[] 192) = w1 := ⟨_, rfl⟩
  have hb : Below w.heap.size w w1 := hw1 ▸ below_box w _
  have h1' := h1.below hb (World.block_lt_of_cell? w ⟨m, 0, none⟩ h1.1)
  have h2' := h2.below hb (World.block_lt_of_cell? w ⟨k, 0, none⟩ h2.1)
  have hr' := hr.grown (below_grown hb)
  obtain ⟨_, f1, c1, _⟩ := hr'
  obtain ⟨d1, _⟩ := h1'
  obtain ⟨d2, f2⟩ := h2'
  have d3 : (w1.setCell ⟨p, 1, none⟩ (.bool true)).cell? ⟨k, 0, none⟩ = some x := (World.cell?_setCell_other _ _ _ _ (by simp <;> exact hpk)).trans d2
  have Hb := Lib.hid hb; have HW := Lib.hid hw1
  clear hb h1 h2 hr hw1
  refine callsD_of_wpS Tryd.func143 rfl fun c₀ cs hu => ?_
  simp only [Tryd.ntmps143, List.size_toArray, List.length_cons, List.length_nil, Nat.reduceAdd, Nat.reduceSub, Array.replicate_succ,
     Array.replicate_zero, List.push_toArray, List.append_toArray, List.nil_append, List.cons_append]
  apply wpS_seq
  apply wpS_region
  simp [wpOpsS, go_sem, recoverD, hu, missingP, Exit.thenS]
  apply wpS_of_wp
  go_upto_region 3 with (fail)
  rw [HW.out]
  go_wp2
  exact ⟨rfl, _, rfl, .tuple #[], results_none rfl _ _ _, rfl, rfl, w1, Hb.out, rfl⟩

set_option maxHeartbeats 400000 in
theorem readCatchW_idle (p q : Addr) (w : World) :
    CallsD Tryd.prog 143 #[.pointer (some p), .pointer (some q)] .returning w fun e u' w' =>
      e = .returned (.tuple #[]) ∧ u' = .returning ∧ w' = w := by
  refine callsD_of_wpS Tryd.func143 rfl fun c₀ cs hu => ?_
  simp only [Tryd.ntmps143, List.size_toArray, List.length_cons, List.length_nil, Nat.reduceAdd, Nat.reduceSub, Array.replicate_succ,
     Array.replicate_zero, List.push_toArray, List.append_toArray, List.nil_append, List.cons_append]
  apply wpS_seq
  apply wpS_region
  simp [wpOpsS, go_sem, recoverD, hu, Exit.thenS]
  apply wpS_of_wp
  go_wp2
  exact ⟨rfl, _, by cases c₀; simp_all, .tuple #[], results_none rfl _ _ _, rfl, rfl, rfl⟩

set_option maxHeartbeats 400000 in
theorem readW_broken (F : FuncId) (cap : Array Value) (p : Nat) (w : World) (h : IsR w p none) :
    Calls Tryd.prog 123 #[.pointer (some ⟨p, 0, none⟩), .func (.func F) #[] cap] w fun e w' => e = .returned (.int .u64 0) ∧ IsR w' p none ∧ w.grownBy w' (some p) := by
  obtain ⟨W0, hW, a1, a2, a3, a4⟩ := two_new w (.pointer (some ⟨p, 0, none⟩)) (.int .u64 0) 113 25
  have hlt := h.lt
  have g0 := below_grown a4
  have h0 := h.grown g0
  obtain ⟨_, _, _, c1⟩ := h0
  obtain ⟨d1, _⟩ := a1
  obtain ⟨d2, f2⟩ := a2
  have HW := Lib.hid hW; have H := Lib.hid (h.grown g0); have G := Lib.hid g0; have A3 := Lib.hid a3; have D2 := Lib.hid (show One W0 (w.heap.size + 1) (.int .u64 0) from ⟨d2, f2⟩)
  clear hW h g0 a3 a4
  go_enter_defers Tryd.func123, Tryd.ntmps123
  go_upto_region 1 with (fail)
  rw [HW.out]
  go_wp2
  have d9 := D2.out.set (.int .u64 0)
  exact ⟨.int .u64 0, by simp [results, Tryd.results123, go_sem, d9.1], rfl, H.out.other (by omega) _, grown_trans' G.out (by simp) _⟩

set_option maxHeartbeats 400000 in
theorem readW_ok (F : FuncId) (cap : Array Value) (p : Nat) (l l' : List UInt8) (v : Value) (V : Int) (hv : v = .int .u64 V) (w : World) (h : IsR w p (some l)) (hF : ∀ args w, (callFunc F args).run Tryd.prog w = .ok (.enter F args) w) (C : DoOk F cap w v p l') :
    Calls Tryd.prog 123 #[.pointer (some ⟨p, 0, none⟩), .func (.func F) #[] cap] w fun e w' => e = .returned v ∧ IsR w' p (some l') ∧ w.grownBy w' (some p) := by
  subst hv
  have hmf : ∀ (fn : Fn) (first cap : Array Value) (w : World), (Instr.makeFunc fn first cap).run Tryd.prog w = .ok (.func fn first cap) w := fun _ _ _ _ => rfl
  obtain ⟨W0, hW, a1, a2, a3, a4⟩ := two_new w (.pointer (some ⟨p, 0, none⟩)) (.int .u64 0) 113 25
  have hlt := h.lt
  have g0 := below_grown a4
  have h0 := h.grown g0
  obtain ⟨_, _, c1, _⟩ := h0
  obtain ⟨d1, _⟩ := id a1
  have HW := Lib.hid hW; have G := Lib.hid g0; have A3 := Lib.hid a3; have A2 := Lib.hid a2; have A1 := Lib.hid a1; have HC := Lib.hid C
  clear hW h g0 a3 a4 a2 a1 C
  go_enter_defers Tryd.func123, Tryd.ntmps123
  go_upto_region 1 with (fail)
  rw [HW.out]
  go_wp2_with fail
  refine (HC.out W0 G.out).mono ?_
  rintro e w2 ⟨rfl, k1, k2⟩
  have hsz := A3.out
  obtain ⟨d5, f5⟩ := A2.out.grown k1 (by simp; omega)
  have K1 := Lib.hid k1; have K2 := Lib.hid k2; have D5 := Lib.hid (show One w2 (w.heap.size + 1) (.int .u64 0) from ⟨d5, f5⟩)
  clear k1 k2 c1 d1 hsz
  go_wp2
  refine leaves_cons (f := 143) (args := #[.pointer (some ⟨w.heap.size, 0, none⟩), .pointer (some ⟨w.heap.size + 1, 0, none⟩)]) (by simp) (by simp [go_sem]) ?_
  refine (readCatchW_idle _ _ _).mono ?_
  rintro e u' w'' ⟨rfl, rfl, rfl⟩
  have d9 := D5.out.set (.int .u64 V)
  refine ⟨.int .u64 V, by simp [results, Tryd.results123, go_sem, d9.1], rfl, K2.out.other (by omega) _, grown_trans' (Lib.grownBy_trans (grown_none G.out) K1.out) (by simp) _⟩

set_option maxHeartbeats 400000 in
theorem readW_miss (F : FuncId) (cap : Array Value) (p : Nat) (l : List UInt8) (w : World) (h : IsR w p (some l)) (hF : ∀ args w, (callFunc F args).run Tryd.prog w = .ok (.enter F args) w) (C : DoMiss F cap w p) :
    Calls Tryd.prog 123 #[.pointer (some ⟨p, 0, none⟩), .func (.func F) #[] cap] w fun e w' => e = .returned (.int .u64 0) ∧ IsR w' p none ∧ w.grownBy w' (some p) := by
  have hmf : ∀ (fn : Fn) (first cap : Array Value) (w : World), (Instr.makeFunc fn first cap).run Tryd.prog w = .ok (.func fn first cap) w := fun _ _ _ _ => rfl
  obtain ⟨W0, hW, a1, a2, a3, a4⟩ := two_new w (.pointer (some ⟨p, 0, none⟩)) (.int .u64 0) 113 25
  have hlt := h.lt
  have g0 := below_grown a4
  have h0 := h.grown g0
  obtain ⟨_, _, c1, _⟩ := h0
  obtain ⟨d1, _⟩ := id a1
  have HW := Lib.hid hW; have G := Lib.hid g0; have A3 := Lib.hid a3; have A2 := Lib.hid a2; have A1 := Lib.hid a1; have HC := Lib.hid C
  clear hW h g0 a3 a4 a2 a1 C
  go_enter_defers Tryd.func123, Tryd.ntmps123
  go_upto_region 1 with (fail)
  rw [HW.out]
  go_wp2_with fail
  refine (HC.out W0 G.out).mono ?_
  rintro e w2 ⟨rfl, k1, l2, k2⟩
  have b1 := A1.out.grown k1 (by simp; omega)
  have hsz := A3.out
  have b2 := A2.out.grown k1 (by simp; omega)
  refine leaves_cons (f := 143) (args := #[.pointer (some ⟨w.heap.size, 0, none⟩), .pointer (some ⟨w.heap.size + 1, 0, none⟩)]) (by simp) (by simp [go_sem]) ?_
  refine (readCatchW_panicking w.heap.size (w.heap.size + 1) p _ l2 w2 b1 b2 k2 (by omega)).mono ?_
  rintro e u' w'' ⟨rfl, rfl, w3, g1, rfl⟩
  have b3 := (b2.below g1 (World.block_lt_of_cell? w2 ⟨w.heap.size + 1, 0, none⟩ b2.1)).other (i := 1) (y := .bool true) (p := p) (by omega)
  have d9 := b3.set (.int .u64 0)
  have k3 := (k2.grown (below_grown g1)).breaks
  exact ⟨.int .u64 0, by simp [results, Tryd.results123, go_sem, d9.1], rfl, k3.other (by omega) _,
    grown_trans' (Lib.grownBy_setB (Lib.grownBy_below (Lib.grownBy_trans (grown_none G.out) k1) g1) 1 _) (by simp) _⟩

set_option maxHeartbeats 400000 in
theorem readCatchN_panicking (m k p : Nat) (x : Value) (l : List UInt8) (w : World) (h1 : One w m (.pointer (some ⟨p, 0, none⟩))) (h2 : One w k x) (hr : IsR w p (some l)) (hpk : p ≠ k) :
    CallsD Tryd.prog 144 #[.pointer (some ⟨m, 0, none⟩), .pointer (some ⟨k, 0, none⟩)] (.panicking missingP) w fun e u' w' =>
      e = .returned (.tuple #[]) ∧ u' = .panicking [{ v := .iface 192 (.agg #[]), recovered := true }] ∧ ∃ w1, Below w.heap.size w w1 ∧ w' = (w1.setCell ⟨p, 1, none⟩ (.bool true)).setCell ⟨k, 0, none⟩ (.int .i64 0) := by
  have ta : ∀ w, (Instr.typeAssert (.iface 192 (.agg #[])) 20 192 true).run Tryd.prog w = .ok (.tuple #[.agg #[], .bool true]) w := fun _ => by kernel_rfl
  obtain ⟨w1, hw1⟩ : ∃ w1, w.alloc (.cells #[] 192) = w1 := ⟨_, rfl⟩
  have hb : Below w.heap.size w w1 := hw1 ▸ below_box w _
  have h1' := h1.below hb (World.block_lt_of_cell? w ⟨m, 0, none⟩ h1.1)
  have h2' := h2.below hb (World.block_lt_of_cell? w ⟨k, 0, none⟩ h2.1)
  have hr' := hr.grown (below_grown hb)
  obtain ⟨_, f1, c1, _⟩ := hr'
  obtain ⟨d1, _⟩ := h1'
  obtain ⟨d2, f2⟩ := h2'
  have d3 : (w1.setCell ⟨p, 1, none⟩ (.bool true)).cell? ⟨k, 0, none⟩ = some x := (World.cell?_setCell_other _ _ _ _ (by simp <;> exact hpk)).trans d2
  have Hb := Lib.hid hb; have HW := Lib.hid hw1
  clear hb h1 h2 hr hw1
  refine callsD_of_wpS Tryd.func144 rfl fun c₀ cs hu => ?_
  simp only [Tryd.ntmps144, List.size_toArray, List.length_cons, List.length_nil, Nat.reduceAdd, Nat.reduceSub, Array.replicate_succ,
     Array.replicate_zero, List.push_toArray, List.append_toArray, List.nil_append, List.cons_append]
  apply wpS_seq
  apply wpS_region
  simp [wpOpsS, go_sem, recoverD, hu, missingP, Exit.thenS]
  apply wpS_of_wp
  go_upto_region 3 with (fail)
  rw [HW.out]
  go_wp2
  exact ⟨rfl, _, rfl, .tuple #[], results_none rfl _ _ _, rfl, rfl, w1, Hb.out, rfl⟩

set_option maxHeartbeats 400000 in
theorem readCatchN_idle (p q : Addr) (w : World) :
    CallsD Tryd.prog 144 #[.pointer (some p), .pointer (some q)] .returning w fun e u' w' =>
      e = .returned (.tuple #[]) ∧ u' = .returning ∧ w' = w := by
  refine callsD_of_wpS Tryd.func144 rfl fun c₀ cs hu => ?_
  simp only [Tryd.ntmps144, List.size_toArray, List.length_cons, List.length_nil, Nat.reduceAdd, Nat.reduceSub, Array.replicate_succ,
     Array.replicate_zero, List.push_toArray, List.append_toArray, List.nil_append, List.cons_append]
  apply wpS_seq
  apply wpS_region
  simp [wpOpsS, go_sem, recoverD, hu, Exit.thenS]
  apply wpS_of_wp
  go_wp2
  exact ⟨rfl, _, by cases c₀; simp_all, .tuple #[], results_none rfl _ _ _, rfl, rfl, rfl⟩

set_option maxHeartbeats 400000 in
theorem readN_broken (F : FuncId) (cap : Array Value) (p : Nat) (w : World) (h : IsR w p none) :
    Calls Tryd.prog 131 #[.pointer (some ⟨p, 0, none⟩), .func (.func F) #[] cap] w fun e w' => e = .returned (.int .i64 0) ∧ IsR w' p none ∧ w.grownBy w' (some p) := by
  obtain ⟨W0, hW, a1, a2, a3, a4⟩ := two_new w (.pointer (some ⟨p, 0, none⟩)) (.int .i64 0) 113 3
  have hlt := h.lt
  have g0 := below_grown a4
  have h0 := h.grown g0
  obtain ⟨_, _, _, c1⟩ := h0
  obtain ⟨d1, _⟩ := a1
  obtain ⟨d2, f2⟩ := a2
  have HW := Lib.hid hW; have H := Lib.hid (h.grown g0); have G := Lib.hid g0; have A3 := Lib.hid a3; have D2 := Lib.hid (show One W0 (w.heap.size + 1) (.int .i64 0) from ⟨d2, f2⟩)
  clear hW h g0 a3 a4
  go_enter_defers Tryd.func131, Tryd.ntmps131
  go_upto_region 1 with (fail)
  rw [HW.out]
  go_wp2
  have d9 := D2.out.set (.int .i64 0)
  exact ⟨.int .i64 0, by simp [results, Tryd.results131, go_sem, d9.1], rfl, H.out.other (by omega) _, grown_trans' G.out (by simp) _⟩

set_option maxHeartbeats 400000 in
theorem readN_ok (F : FuncId) (cap : Array Value) (p : Nat) (l l' : List UInt8) (v : Value) (V : Int) (hv : v = .int .i64 V) (w : World) (h : IsR w p (some l)) (hF : ∀ args w, (callFunc F args).run Tryd.prog w = .ok (.enter F args) w) (C : DoOk F cap w v p l') :
    Calls Tryd.prog 131 #[.pointer (some ⟨p, 0, none⟩), .func (.func F) #[] cap] w fun e w' => e = .returned v ∧ IsR w' p (some l') ∧ w.grownBy w' (some p) := by
  subst hv
  have hmf : ∀ (fn : Fn) (first cap : Array Value) (w : World), (Instr.makeFunc fn first cap).run Tryd.prog w = .ok (.func fn first cap) w := fun _ _ _ _ => rfl
  obtain ⟨W0, hW, a1, a2, a3, a4⟩ := two_new w (.pointer (some ⟨p, 0, none⟩)) (.int .i64 0) 113 3
  have hlt := h.lt
  have g0 := below_grown a4
  have h0 := h.grown g0
  obtain ⟨_, _, c1, _⟩ := h0
  obtain ⟨d1, _⟩ := id a1
  have HW := Lib.hid hW; have G := Lib.hid g0; have A3 := Lib.hid a3; have A2 := Lib.hid a2; have A1 := Lib.hid a1; have HC := Lib.hid C
  clear hW h g0 a3 a4 a2 a1 C
  go_enter_defers Tryd.func131, Tryd.ntmps131
  go_upto_region 1 with (fail)
  rw [HW.out]
  go_wp2_with fail
  refine (HC.out W0 G.out).mono ?_
  rintro e w2 ⟨rfl, k1, k2⟩
  have hsz := A3.out
  obtain ⟨d5, f5⟩ := A2.out.grown k1 (by simp; omega)
  have K1 := Lib.hid k1; have K2 := Lib.hid k2; have D5 := Lib.hid (show One w2 (w.heap.size + 1) (.int .i64 0) from ⟨d5, f5⟩)
  clear k1 k2 c1 d1 hsz
  go_wp2
  refine leaves_cons (f := 144) (args := #[.pointer (some ⟨w.heap.size, 0, none⟩), .pointer (some ⟨w.heap.size + 1, 0, none⟩)]) (by simp) (by simp [go_sem]) ?_
  refine (readCatchN_idle _ _ _).mono ?_
  rintro e u' w'' ⟨rfl, rfl, rfl⟩
  have d9 := D5.out.set (.int .i64 V)
  refine ⟨.int .i64 V, by simp [results, Tryd.results131, go_sem, d9.1], rfl, K2.out.other (by omega) _, grown_trans' (Lib.grownBy_trans (grown_none G.out) K1.out) (by simp) _⟩

set_option maxHeartbeats 400000 in
theorem readN_miss (F : FuncId) (cap : Array Value) (p : Nat) (l : List UInt8) (w : World) (h : IsR w p (some l)) (hF : ∀ args w, (callFunc F args).run Tryd.prog w = .ok (.enter F args) w) (C : DoMiss F cap w p) :
    Calls Tryd.prog 131 #[.pointer (some ⟨p, 0, none⟩), .func (.func F) #[] cap] w fun e w' => e = .returned (.int .i64 0) ∧ IsR w' p none ∧ w.grownBy w' (some p) := by
  have hmf : ∀ (fn : Fn) (first cap : Array Value) (w : World), (Instr.makeFunc fn first cap).run Tryd.prog w = .ok (.func fn first cap) w := fun _ _ _ _ => rfl
  obtain ⟨W0, hW, a1, a2, a3, a4⟩ := two_new w (.pointer (some ⟨p, 0, none⟩)) (.int .i64 0) 113 3
  have hlt := h.lt
  have g0 := below_grown a4
  have h0 := h.grown g0
  obtain ⟨_, _, c1, _⟩ := h0
  obtain ⟨d1, _⟩ := id a1
  have HW := Lib.hid hW; have G := Lib.hid g0; have A3 := Lib.hid a3; have A2 := Lib.hid a2; have A1 := Lib.hid a1; have HC := Lib.hid C
  clear hW h g0 a3 a4 a2 a1 C
  go_enter_defers Tryd.func131, Tryd.ntmps131
  go_upto_region 1 with (fail)
  rw [HW.out]
  go_wp2_with fail
  refine (HC.out W0 G.out).mono ?_
  rintro e w2 ⟨rfl, k1, l2, k2⟩
  have b1 := A1.out.grown k1 (by simp; omega)
  have hsz := A3.out
  have b2 := A2.out.grown k1 (by simp; omega)
  refine leaves_cons (f := 144) (args := #[.pointer (some ⟨w.heap.size, 0, none⟩), .pointer (some ⟨w.heap.size + 1, 0, none⟩)]) (by simp) (by simp [go_sem]) ?_
  refine (readCatchN_panicking w.heap.size (w.heap.size + 1) p _ l2 w2 b1 b2 k2 (by omega)).mono ?_
  rintro e u' w'' ⟨rfl, rfl, w3, g1, rfl⟩
  have b3 := (b2.below g1 (World.block_lt_of_cell? w2 ⟨w.heap.size + 1, 0, none⟩ b2.1)).other (i := 1) (y := .bool true) (p := p) (by omega)
  have d9 := b3.set (.int .i64 0)
  have k3 := (k2.grown (below_grown g1)).breaks
  exact ⟨.int .i64 0, by simp [results, Tryd.results131, go_sem, d9.1], rfl, k3.other (by omega) _,
    grown_trans' (Lib.grownBy_setB (Lib.grownBy_below (Lib.grownBy_trans (grown_none G.out) k1) g1) 1 _) (by simp) _⟩

set_option maxHeartbeats 400000 in
theorem readCatchS_panicking (m k p : Nat) (x : Value) (l : List UInt8) (w : World) (h1 : One w m (.pointer (some ⟨p, 0, none⟩))) (h2 : One w k x) (hr : IsR w p (some l)) (hpk : p ≠ k) :
    CallsD Tryd.prog 141 #[.pointer (some ⟨m, 0, none⟩), .pointer (some ⟨k, 0, none⟩)] (.panicking missingP) w fun e u' w' =>
      e = .returned (.tuple #[]) ∧ u' = .panicking [{ v := .iface 192 (.agg #[]), recovered := true }] ∧ ∃ w1, Below w.heap.size w w1 ∧ w' = (w1.setCell ⟨p, 1, none⟩ (.bool true)).setCell ⟨k, 0, none⟩ (.string ⟨#[]⟩) := by
  have ta : ∀ w, (Instr.typeAssert (.iface 192 (.agg #[])) 20 192 true).run Tryd.prog w = .ok (.tuple #[.agg #[], .bool true]) w := fun _ => by kernel_rfl
  obtain ⟨w1, hw1⟩ : ∃ w1, w.alloc (.cells #[] 192) = w1 := ⟨_, rfl⟩
  have hb : Below w.heap.size w w1 := hw1 ▸ below_box w _
  have h1' := h1.below hb (World.block_lt_of_cell? w ⟨m, 0, none⟩ h1.1)
  have h2' := h2.below hb (World.block_lt_of_cell? w ⟨k, 0, none⟩ h2.1)
  have hr' := hr.grown (below_grown hb)
  obtain ⟨_, f1, c1, _⟩ := hr'
  obtain ⟨d1, _⟩ := h1'
  obtain ⟨d2, f2⟩ := h2'
  have d3 : (w1.setCell ⟨p, 1, none⟩ (.bool true)).cell? ⟨k, 0, none⟩ = some x := (World.cell?_setCell_other _ _ _ _ (by simp <;> exact hpk)).trans d2
  have Hb := Lib.hid hb; have HW := Lib.hid hw1
  clear hb h1 h2 hr hw1
  refine callsD_of_wpS Tryd.func141 rfl fun c₀ cs hu => ?_
  simp only [Tryd.ntmps141, List.size_toArray, List.length_cons, List.length_nil, Nat.reduceAdd, Nat.reduceSub, Array.replicate_succ,
     Array.replicate_zero, List.push_toArray, List.append_toArray, List.nil_append, List.cons_append]
  apply wpS_seq
  apply wpS_region
  simp [wpOpsS, go_sem, recoverD, hu, missingP, Exit.thenS]
  apply wpS_of_wp
  go_upto_region 3 with (fail)
  rw [HW.out]
  go_wp2
  exact ⟨rfl, _, rfl, .tuple #[], results_none rfl _ _ _, rfl, rfl, w1, Hb.out, rfl⟩

set_option maxHeartbeats 400000 in
theorem readCatchS_idle (p q : Addr) (w : World) :
    CallsD Tryd.prog 141 #[.pointer (some p), .pointer (some q)] .returning w fun e u' w' =>
      e = .returned (.tuple #[]) ∧ u' = .returning ∧ w' = w := by
  refine callsD_of_wpS Tryd.func141 rfl fun c₀ cs hu => ?_
  simp only [Tryd.ntmps141, List.size_toArray, List.length_cons, List.length_nil, Nat.reduceAdd, Nat.reduceSub, Array.replicate_succ,
     Array.replicate_zero, List.push_toArray, List.append_toArray, List.nil_append, List.cons_append]
  apply wpS_seq
  apply wpS_region
  simp [wpOpsS, go_sem, recoverD, hu, Exit.thenS]
  apply wpS_of_wp
  go_wp2
  exact ⟨rfl, _, by cases c₀; simp_all, .tuple #[], results_none rfl _ _ _, rfl, rfl, rfl⟩

set_option maxHeartbeats 400000 in
theorem readS_broken (F : FuncId) (cap : Array Value) (p : Nat) (w : World) (h : IsR w p none) :
    Calls Tryd.prog 116 #[.pointer (some ⟨p, 0, none⟩), .func (.func F) #[] cap] w fun e w' => e = .returned (.string ⟨#[]⟩) ∧ IsR w' p none ∧ w.grownBy w' (some p) := by
  obtain ⟨W0, hW, a1, a2, a3, a4⟩ := two_new w (.pointer (some ⟨p, 0, none⟩)) (.string ⟨#[]⟩) 113 9
  have hlt := h.lt
  have g0 := below_grown a4
  have h0 := h.grown g0
  obtain ⟨_, _, _, c1⟩ := h0
  obtain ⟨d1, _⟩ := a1
  obtain ⟨d2, f2⟩ := a2
  have HW := Lib.hid hW; have H := Lib.hid (h.grown g0); have G := Lib.hid g0; have A3 := Lib.hid a3; have D2 := Lib.hid (show One W0 (w.heap.size + 1) (.string ⟨#[]⟩) from ⟨d2, f2⟩)
  clear hW h g0 a3 a4
  go_enter_defers Tryd.func116, Tryd.ntmps116
  go_upto_region 1 with (fail)
  rw [HW.out]
  go_wp2
  have d9 := D2.out.set (.string ⟨#[]⟩)
  exact ⟨.string ⟨#[]⟩, by simp [results, Tryd.results116, go_sem, d9.1], rfl, H.out.other (by omega) _, grown_trans' G.out (by simp) _⟩

set_option maxHeartbeats 400000 in
theorem readS_ok (F : FuncId) (cap : Array Value) (p : Nat) (l l' : List UInt8) (v : Value) (V : ByteArray) (hv : v = .string V) (w : World) (h : IsR w p (some l)) (hF : ∀ args w, (callFunc F args).run Tryd.prog w = .ok (.enter F args) w) (C : DoOk F cap w v p l') :
    Calls Tryd.prog 116 #[.pointer (some ⟨p, 0, none⟩), .func (.func F) #[] cap] w fun e w' => e = .returned v ∧ IsR w' p (some l') ∧ w.grownBy w' (some p) := by
  subst hv
  have hmf : ∀ (fn : Fn) (first cap : Array Value) (w : World), (Instr.makeFunc fn first cap).run Tryd.prog w = .ok (.func fn first cap) w := fun _ _ _ _ => rfl
  obtain ⟨W0, hW, a1, a2, a3, a4⟩ := two_new w (.pointer (some ⟨p, 0, none⟩)) (.string ⟨#[]⟩) 113 9
  have hlt := h.lt
  have g0 := below_grown a4
  have h0 := h.grown g0
  obtain ⟨_, _, c1, _⟩ := h0
  obtain ⟨d1, _⟩ := id a1
  have HW := Lib.hid hW; have G := Lib.hid g0; have A3 := Lib.hid a3; have A2 := Lib.hid a2; have A1 := Lib.hid a1; have HC := Lib.hid C
  clear hW h g0 a3 a4 a2 a1 C
  go_enter_defers Tryd.func116, Tryd.ntmps116
  go_upto_region 1 with (fail)
  rw [HW.out]
  go_wp2_with fail
  refine (HC.out W0 G.out).mono ?_
  rintro e w2 ⟨rfl, k1, k2⟩
  have hsz := A3.out
  obtain ⟨d5, f5⟩ := A2.out.grown k1 (by simp; omega)
  have K1 := Lib.hid k1; have K2 := Lib.hid k2; have D5 := Lib.hid (show One w2 (w.heap.size + 1) (.string ⟨#[]⟩) from ⟨d5, f5⟩)
  clear k1 k2 c1 d1 hsz
  go_wp2
  refine leaves_cons (f := 141) (args := #[.pointer (some ⟨w.heap.size, 0, none⟩), .pointer (some ⟨w.heap.size + 1, 0, none⟩)]) (by simp) (by simp [go_sem]) ?_
  refine (readCatchS_idle _ _ _).mono ?_
  rintro e u' w'' ⟨rfl, rfl, rfl⟩
  have d9 := D5.out.set (.string V)
  refine ⟨.string V, by simp [results, Tryd.results116, go_sem, d9.1], rfl, K2.out.other (by omega) _, grown_trans' (Lib.grownBy_trans (grown_none G.out) K1.out) (by simp) _⟩

set_option maxHeartbeats 400000 in
theorem readS_miss (F : FuncId) (cap : Array Value) (p : Nat) (l : List UInt8) (w : World) (h : IsR w p (some l)) (hF : ∀ args w, (callFunc F args).run Tryd.prog w = .ok (.enter F args) w) (C : DoMiss F cap w p) :
    Calls Tryd.prog 116 #[.pointer (some ⟨p, 0, none⟩), .func (.func F) #[] cap] w fun e w' => e = .returned (.string ⟨#[]⟩) ∧ IsR w' p none ∧ w.grownBy w' (some p) := by
  have hmf : ∀ (fn : Fn) (first cap : Array Value) (w : World), (Instr.makeFunc fn first cap).run Tryd.prog w = .ok (.func fn first cap) w := fun _ _ _ _ => rfl
  obtain ⟨W0, hW, a1, a2, a3, a4⟩ := two_new w (.pointer (some ⟨p, 0, none⟩)) (.string ⟨#[]⟩) 113 9
  have hlt := h.lt
  have g0 := below_grown a4
  have h0 := h.grown g0
  obtain ⟨_, _, c1, _⟩ := h0
  obtain ⟨d1, _⟩ := id a1
  have HW := Lib.hid hW; have G := Lib.hid g0; have A3 := Lib.hid a3; have A2 := Lib.hid a2; have A1 := Lib.hid a1; have HC := Lib.hid C
  clear hW h g0 a3 a4 a2 a1 C
  go_enter_defers Tryd.func116, Tryd.ntmps116
  go_upto_region 1 with (fail)
  rw [HW.out]
  go_wp2_with fail
  refine (HC.out W0 G.out).mono ?_
  rintro e w2 ⟨rfl, k1, l2, k2⟩
  have b1 := A1.out.grown k1 (by simp; omega)
  have hsz := A3.out
  have b2 := A2.out.grown k1 (by simp; omega)
  refine leaves_cons (f := 141) (args := #[.pointer (some ⟨w.heap.size, 0, none⟩), .pointer (some ⟨w.heap.size + 1, 0, none⟩)]) (by simp) (by simp [go_sem]) ?_
  refine (readCatchS_panicking w.heap.size (w.heap.size + 1) p _ l2 w2 b1 b2 k2 (by omega)).mono ?_
  rintro e u' w'' ⟨rfl, rfl, w3, g1, rfl⟩
  have b3 := (b2.below g1 (World.block_lt_of_cell? w2 ⟨w.heap.size + 1, 0, none⟩ b2.1)).other (i := 1) (y := .bool true) (p := p) (by omega)
  have d9 := b3.set (.string ⟨#[]⟩)
  have k3 := (k2.grown (below_grown g1)).breaks
  exact ⟨.string ⟨#[]⟩, by simp [results, Tryd.results116, go_sem, d9.1], rfl, k3.other (by omega) _,
    grown_trans' (Lib.grownBy_setB (Lib.grownBy_below (Lib.grownBy_trans (grown_none G.out) k1) g1) 1 _) (by simp) _⟩

end Go.Proofs.YtaffpgafbjhahaaDoor
