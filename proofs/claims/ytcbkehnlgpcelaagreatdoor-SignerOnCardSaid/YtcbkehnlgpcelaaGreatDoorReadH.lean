/- Walks: wire.read at api.Hash, and the Reader's Hash. -/
import Derived.Test.YtcbkehnlgpcelaaGreatDoorDecode
import Derived.Deep.Cut
import Derived.Deep.CutRange
import Derived.Deep.RegionHeld
import Derived.Deep.Upon
import Derived.Laws.Cover3
namespace Go.Proofs.YtcbkehnlgpcelaaGreatDoor
open Go.RowKit
set_option maxRecDepth 100000

/-- the zero hash's cells -/
def ZH : List Value := Lib.byteCells (List.replicate 32 0)
theorem ZH_info : (Tryz.prog.info? 26).map (fun i => i.zero.map (fun v => v.cells)) = some (some ZH.toArray) := by kernel_rfl
theorem ZH_length : ZH.length = 32 := by rfl
theorem sizeH (cs : List Value) (h : cs.length = 32) : (Tryz.prog.info? 26).map (·.size) = some cs.length := by rw [h]; kernel_rfl
theorem ZH_one : ∀ v ∈ ZH, v.oneCell' = true := oneCell_bytes _

theorem Blk.setOther {w : World} {g : Nat} {vs : List Value} {T : TypeId} (h : Blk w g vs T) {p i : Nat} (hne : p ≠ g) (y : Value) : Blk (w.setCell ⟨p, i, none⟩ y) g vs T :=
  (Below.heap_setCell w ⟨p, i, none⟩ y g (by simp; exact fun e => hne e.symm)).trans h

theorem heap_setCell_same {w : World} {g : Nat} {C : Array Value} {T : TypeId} {fr : Nat × Nat} (h : w.heap[g]? = some (.cells C T fr)) (i : Nat) (x : Value) :
    (w.setCell ⟨g, i, none⟩ x).heap[g]? = some (.cells (C.setIfInBounds i x) T fr) := by
  obtain ⟨hg, hgt⟩ := Array.getElem?_eq_some_iff.1 h
  simp [World.setCell, hg, hgt, Array.getElem_modify]
theorem heap_setCells_same {g : Nat} {T : TypeId} {fr : Nat × Nat} : ∀ (vs : List Value) (o : Nat) (w : World) (cs : List Value), w.heap[g]? = some (.cells cs.toArray T fr) → o + vs.length ≤ cs.length →
    (w.setCells g o vs).heap[g]? = some (.cells (cs.take o ++ vs ++ cs.drop (o + vs.length)).toArray T fr)
  | [], o, w, cs, h, _ => by simpa [World.setCells] using h
  | v :: vs, o, w, cs, h, hle => by
    rw [List.length_cons] at hle
    have h1 := heap_setCell_same h o v
    have h2 := heap_setCells_same vs (o + 1) (w.setCell ⟨g, o, none⟩ v) (cs.set o v) (by simpa using h1) (by simp; omega)
    unfold World.setCells
    rw [h2]
    congr 3
    rw [List.take_set, List.drop_set_of_lt (by omega), List.take_succ_eq_append_getElem (show o < cs.length by omega), List.length_cons]
    have e : (List.take o cs ++ [cs[o]'(by omega)]).set o v = List.take o cs ++ [v] := by
      rw [List.set_append, if_neg (by rw [List.length_take]; omega), List.length_take, Nat.min_eq_left (by omega), Nat.sub_self]; rfl
    rw [e, show o + 1 + vs.length = o + (vs.length + 1) by omega]
    simp
theorem Blk.setCells {w : World} {g : Nat} {cs vs : List Value} {T : TypeId} (h : Blk w g cs T) (hn : vs.length = cs.length) : Blk (w.setCells g 0 vs) g vs T := by
  have := heap_setCells_same vs 0 w cs h (by omega)
  rw [List.take_zero, List.nil_append, Nat.zero_add, List.drop_eq_nil_of_le (by omega), List.append_nil] at this
  exact this
theorem grown_setCells {w : World} {g o : Nat} {vs : List Value} : w.grownBy (w.setCells g o vs) (some g) := by
  have hs : ∀ (vs : List Value) (o : Nat) (w : World), (w.setCells g o vs).heap.size = w.heap.size ∧ (w.setCells g o vs).tape = w.tape := by
    intro vs
    induction vs with
    | nil => intro o w; exact ⟨rfl, rfl⟩
    | cons v vs ih =>
      intro o w
      unfold World.setCells
      obtain ⟨h1, h2⟩ := ih (o + 1) (w.setCell ⟨g, o, none⟩ v)
      exact ⟨h1.trans (by simp [World.setCell]), h2.trans rfl⟩
  exact ⟨World.os_setCells _ _ _ _, (hs vs o w).2, World.output_setCells _ _ _ _, by rw [(hs vs o w).1]; exact Nat.le_refl _, fun k hk hne => World.heap_setCells_other _ _ _ _ hk (by intro e; subst e; exact hne rfl)⟩
theorem Blk.there {w : World} {g n : Nat} {vs : List Value} {T : TypeId} (h : Blk w g vs T) (hn : vs.length = n) : w.there g 0 n := fun j hj =>
  ⟨by rw [h.row j _ (List.getElem?_eq_getElem (by omega))]; rfl, by simpa using h.frozen (0 + j)⟩
/-- what the catcher's last statement looks at -/
theorem keepRH {m p b : Nat} {Z : List Value} {w : World} (hb : b ≠ p) (hm : m ≠ p) (hm1 : m + 1 ≠ p)
    (h : w.rangeAt b 0 Z ∧ w.there (m + 1) 0 32 ∧ w.cell? ⟨m, 0, none⟩ = some (.pointer (some ⟨p, 0, none⟩)) ∧ (w.cell? ⟨p, 1, none⟩).isSome = true ∧ w.frozen? ⟨p, 1, none⟩ = false) (x : Value) :
    (w.setCell ⟨p, 1, none⟩ x).rangeAt b 0 Z ∧ (w.setCell ⟨p, 1, none⟩ x).there (m + 1) 0 32 ∧ (w.setCell ⟨p, 1, none⟩ x).cell? ⟨m, 0, none⟩ = some (.pointer (some ⟨p, 0, none⟩)) ∧ ((w.setCell ⟨p, 1, none⟩ x).cell? ⟨p, 1, none⟩).isSome = true ∧ (w.setCell ⟨p, 1, none⟩ x).frozen? ⟨p, 1, none⟩ = false := by
  obtain ⟨h1, h2, h3, h4, h5⟩ := h
  refine ⟨fun j v hj => (World.cell?_setCell_other _ _ _ _ (by simp <;> omega)).trans (h1 j v hj), fun j hj => ⟨?_, by simpa using (h2 j hj).2⟩, (World.cell?_setCell_other _ _ _ _ (by simp <;> omega)).trans h3, by rw [World.cell?_setCell_same' _ _ _ h4]; rfl, by simpa using h5⟩
  rw [World.cell?_setCell_other _ _ _ _ (by simp <;> omega)]; exact (h2 j hj).1
theorem keepRH2 {m p b : Nat} {Z : List Value} {w : World} (hb : b ≠ m + 1) (hm1 : m + 1 ≠ p)
    (h : w.rangeAt b 0 Z ∧ w.there (m + 1) 0 32 ∧ w.cell? ⟨m, 0, none⟩ = some (.pointer (some ⟨p, 0, none⟩)) ∧ (w.cell? ⟨p, 1, none⟩).isSome = true ∧ w.frozen? ⟨p, 1, none⟩ = false) (vs : List Value) :
    (w.setCells (m + 1) 0 vs).rangeAt b 0 Z ∧ (w.setCells (m + 1) 0 vs).there (m + 1) 0 32 ∧ (w.setCells (m + 1) 0 vs).cell? ⟨m, 0, none⟩ = some (.pointer (some ⟨p, 0, none⟩)) ∧ ((w.setCells (m + 1) 0 vs).cell? ⟨p, 1, none⟩).isSome = true ∧ (w.setCells (m + 1) 0 vs).frozen? ⟨p, 1, none⟩ = false := by
  obtain ⟨h1, h2, h3, h4, h5⟩ := h
  refine ⟨World.rangeAt_setCells_apart h1 _ _ _ (Or.inl hb), World.there_setCells h2 _ _ _, ?_, ?_, by rw [World.frozen?_setCells]; exact h5⟩
  · exact (World.cell?_setCells_out _ _ _ _ _ (by intro e; simp at e)).trans h3
  · rw [World.cell?_setCells_out _ _ _ _ _ (by intro e; exact absurd e.symm hm1)]; exact h4

set_option maxHeartbeats 400000 in
theorem readCatchZ_panicking (Z : List Value) (hZ : (Tryz.prog.info? 26).map (fun i => i.zero.map (fun v => v.cells)) = some (some Z.toArray)) (hl : Z.length = 32) (ho : ∀ v ∈ Z, v.oneCell' = true) (m p : Nat) (cs : List Value) (l : List UInt8) (w : World) (h1 : One w m (.pointer (some ⟨p, 0, none⟩))) (h2 : Blk w (m + 1) cs 26) (hn : cs.length = 32) (hr : IsR w p (some l)) (hpm : p < m) :
    CallsD Tryz.prog 155 #[.pointer (some ⟨m, 0, none⟩), .pointer (some ⟨m + 1, 0, none⟩)] (.panicking missingP) w fun e u' w' =>
      e = .returned (.tuple #[]) ∧ u' = .panicking [{ v := .iface 201 (.agg #[]), recovered := true }] ∧ Blk w' (m + 1) Z 26 ∧ IsR w' p none ∧ ∃ w1, w.grownBy w1 (some p) ∧ w1.grownBy w' (some (m + 1)) := by
  have ta : ∀ w, (Instr.typeAssert (.iface 201 (.agg #[])) 20 201 true).run Tryz.prog w = .ok (.tuple #[.agg #[], .bool true]) w := fun _ => by kernel_rfl
  obtain ⟨w1, hw1⟩ : ∃ w1, w.alloc (.cells #[] 201) = w1 := ⟨_, rfl⟩
  have hb : Below w.heap.size w w1 := hw1 ▸ below_box w _
  have h1' := h1.below hb (World.block_lt_of_cell? w ⟨m, 0, none⟩ h1.1)
  have h2' := h2.below hb h2.lt
  have hr' := hr.grown (below_grown hb)
  have Hb := Lib.hid hb; have HW := Lib.hid hw1; have H1 := Lib.hid h1'; have H2 := Lib.hid h2'; have HR := Lib.hid hr'; have Hn := Lib.hid hn
  clear hb h1 h2 hr hw1 h1' h2' hr' hn
  refine callsD_of_wpS Tryz.func155 rfl fun c₀ cs hu => ?_
  simp only [Tryz.ntmps155, List.size_toArray, List.length_cons, List.length_nil, Nat.reduceAdd, Nat.reduceSub, Array.replicate_succ,
     Array.replicate_zero, List.push_toArray, List.append_toArray, List.nil_append, List.cons_append]
  apply wpS_seq
  apply wpS_region
  simp [wpOpsS, go_sem, recoverD, hu, missingP, Exit.thenS]
  apply wpS_of_wp
  go_upto_region 3 with (fail)
  rw [HW.out]
  go_wp2_with (refine wpList_alloc_as rfl 26 rfl Z hZ ?_)
  intro w2 k1 k2 k3
  have r2 := HR.out.grown k2
  have o2 := H1.out.grown k2 (by simp)
  have b2 := H2.out.grown k2 (by simp)
  have K1 := Lib.hid k1; have K2 := Lib.hid k2; have R2 := Lib.hid r2; have B2 := Lib.hid b2
  obtain ⟨d1, _⟩ := o2
  obtain ⟨_, f1, c1, _⟩ := r2
  clear k1 k2 k3 b2
  have hu := Tryz.underlying26
  have hi := sizeH Z hl
  have hS0 : w2.rangeAt w1.heap.size 0 Z := K1.out.row
  have hS1 : w2.there (m + 1) 0 32 := B2.out.there Hn.out
  have q1 : w1.heap.size ≠ p := by have := HR.out.lt; omega
  have q2 : m ≠ p := by omega
  have q3 : m + 1 ≠ p := by omega
  have q4 : w1.heap.size ≠ m + 1 := by have := H2.out.lt; omega
  go_wp2
  go_region_held (fun w' => w'.rangeAt w1.heap.size 0 Z ∧ w'.there (m + 1) 0 32 ∧ w'.cell? ⟨m, 0, none⟩ = some (.pointer (some ⟨p, 0, none⟩)) ∧ (w'.cell? ⟨p, 1, none⟩).isSome = true ∧ w'.frozen? ⟨p, 1, none⟩ = false)
    (first | exact ⟨hS0, hS1, d1, by rw [World.cell?_drew, c1]; rfl, f1⟩ | exact keepRH q1 q2 q3 (by assumption) _ | exact keepRH2 q4 q3 (by assumption) _) (fail)
  go_wp2
  have r3 : IsR (w2.drew.setCell ⟨p, 1, none⟩ (.bool true)) p none := IsR.breaks (w := w2.drew) (l := l) R2.out
  have g3 : w2.grownBy (w2.drew.setCell ⟨p, 1, none⟩ (.bool true)) (some p) := have g := Lib.grownBy_setCell w2 p 1 (.bool true); ⟨g.os, g.tape, g.output, g.size, g.block⟩
  have b3 : Blk (w2.drew.setCell ⟨p, 1, none⟩ (.bool true)) (m + 1) _ _ := Blk.setOther (w := w2.drew) B2.out (by omega) _
  have g4 : (w2.drew.setCell ⟨p, 1, none⟩ (.bool true)).grownBy ((w2.drew.setCell ⟨p, 1, none⟩ (.bool true)).setCells (m + 1) 0 Z) (some (m + 1)) := grown_setCells
  exact ⟨rfl, _, rfl, .tuple #[], results_none rfl _ _ _, rfl, rfl, b3.setCells (by rw [hl, Hn.out]), r3.grownAt g4 (by omega), w2.drew.setCell ⟨p, 1, none⟩ (.bool true), Lib.grownBy_trans (grown_none (Lib.grownBy_trans (below_grown Hb.out) K2.out)) g3, g4⟩

set_option maxHeartbeats 400000 in
theorem readCatchH_idle (p q : Addr) (w : World) :
    CallsD Tryz.prog 155 #[.pointer (some p), .pointer (some q)] .returning w fun e u' w' =>
      e = .returned (.tuple #[]) ∧ u' = .returning ∧ w' = w := by
  refine callsD_of_wpS Tryz.func155 rfl fun c₀ cs hu => ?_
  simp only [Tryz.ntmps155, List.size_toArray, List.length_cons, List.length_nil, Nat.reduceAdd, Nat.reduceSub, Array.replicate_succ,
     Array.replicate_zero, List.push_toArray, List.append_toArray, List.nil_append, List.cons_append]
  apply wpS_seq
  apply wpS_region
  simp [wpOpsS, go_sem, recoverD, hu, Exit.thenS]
  apply wpS_of_wp
  go_wp2
  exact ⟨rfl, _, by cases c₀; simp_all, .tuple #[], results_none rfl _ _ _, rfl, rfl, rfl⟩

set_option maxHeartbeats 400000 in
theorem readH_broken (F : FuncId) (cap : Array Value) (p : Nat) (w : World) (h : IsR w p none) :
    Calls Tryz.prog 137 #[.pointer (some ⟨p, 0, none⟩), .func (.func F) #[] cap] w fun e w' => e = .returned (.agg ZH.toArray) ∧ IsR w' p none ∧ w.grownBy w' (some p) := by
  obtain ⟨W, hW, o1, hsz, hg⟩ := One.below_box w (.pointer (some ⟨p, 0, none⟩)) 156
  have hlt := h.lt
  have h1 := h.grown hg
  have HW := Lib.hid hW; have H := Lib.hid h1; have G := Lib.hid hg; have O := Lib.hid o1; have Hsz := Lib.hid hsz
  clear hW h hg o1 hsz h1
  go_enter_defers Tryz.func137, Tryz.ntmps137
  go_wp2_with (first | (rw [HW.out]; refine wpList_alloc_as rfl 26 rfl ZH ZH_info ?_))
  intro w2 k1 k2 k3
  have r2 := H.out.grown k2
  obtain ⟨d1, _⟩ := O.out.grown k2 (by simp)
  obtain ⟨_, _, _, c1⟩ := id r2
  have K1 := Lib.hid k1; have K2 := Lib.hid k2; have R2 := Lib.hid r2
  clear k1 k2 k3 r2
  go_wp2_with (first | (refine wpList_load_part rfl 26 _ rfl W.heap.size 0 rfl ZH _ K1.out.row Tryz.underlying26 rfl (sizeH _ ZH_length) ?_) | (refine wpList_store_whole rfl 26 _ _ rfl W.heap.size rfl ZH ZH 26 rfl K1.out rfl ZH_one (sizeH _ ZH_length) ?_))
  intro w3 l1 l2 l3
  go_wp2
  have hlt2 := H.out.lt
  exact ⟨.agg ZH.toArray, results_cell_one rfl _ _ ⟨W.heap.size, 0, none⟩ _ rfl (run_loadVar_part _ _ _ 26 ZH _ l3.row Tryz.underlying26 rfl (sizeH _ ZH_length)), rfl, R2.out.grownAt l1 hlt2, grown_new (grown_none (Lib.grownBy_trans G.out K2.out)) l1 (by have := Hsz.out; omega)⟩

set_option maxHeartbeats 400000 in
theorem readH_ok (F : FuncId) (cap : Array Value) (p : Nat) (l l' : List UInt8) (cs : List Value) (hn : cs.length = 32) (ho : ∀ v ∈ cs, v.oneCell' = true) (w : World) (h : IsR w p (some l)) (hF : ∀ args w, (callFunc F args).run Tryz.prog w = .ok (.enter F args) w) (C : DoOk F cap w (.agg cs.toArray) p l') :
    Calls Tryz.prog 137 #[.pointer (some ⟨p, 0, none⟩), .func (.func F) #[] cap] w fun e w' => e = .returned (.agg cs.toArray) ∧ IsR w' p (some l') ∧ w.grownBy w' (some p) := by
  have hmf : ∀ (fn : Fn) (first cap : Array Value) (w : World), (Instr.makeFunc fn first cap).run Tryz.prog w = .ok (.func fn first cap) w := fun _ _ _ _ => rfl
  obtain ⟨W, hW, o1, hsz, hg⟩ := One.below_box w (.pointer (some ⟨p, 0, none⟩)) 156
  have hlt := h.lt
  have HW := Lib.hid hW; have H := Lib.hid (h.grown hg); have G := Lib.hid hg; have O := Lib.hid o1; have Hsz := Lib.hid hsz; have HC := Lib.hid C; have Hn := Lib.hid hn; have Ho := Lib.hid ho
  clear hW h hg o1 hsz C hn ho
  go_enter_defers Tryz.func137, Tryz.ntmps137
  go_wp2_with (first | (rw [HW.out]; refine wpList_alloc_as rfl 26 rfl ZH ZH_info ?_))
  intro w2 k1 k2 k3
  obtain ⟨_, _, c1, _⟩ := H.out.grown k2
  have o2 := O.out.grown k2 (by simp)
  obtain ⟨d1, _⟩ := id o2
  have K1 := Lib.hid k1; have K2 := Lib.hid k2; have K3 := Lib.hid k3; have O2 := Lib.hid o2
  clear k1 k2 k3 o2
  go_wp2_with fail
  refine (HC.out w2 (Lib.grownBy_trans G.out K2.out)).mono ?_
  rintro e w3 ⟨rfl, k1, k2⟩
  have hs := Hsz.out
  have hsz2 := K3.out
  have b3 := K1.out.grown k1 (by simp; omega)
  have B3 := Lib.hid b3; have L1 := Lib.hid k1; have L2 := Lib.hid k2
  clear k1 k2 b3 c1 d1 hs hsz2
  go_wp2_with (first | (refine wpList_store_whole rfl 26 _ _ rfl W.heap.size rfl cs ZH 26 rfl B3.out (by rw [Hn.out]; rfl) Ho.out (sizeH _ Hn.out) ?_))
  intro w4 m1 m2 m3
  have M1 := Lib.hid m1; have M3 := Lib.hid m3
  clear m1 m2 m3
  go_wp2
  refine leaves_cons (f := 155) (args := #[.pointer (some ⟨w.heap.size, 0, none⟩), .pointer (some ⟨W.heap.size, 0, none⟩)]) (by simp) (by simp [go_sem]) ?_
  refine (readCatchH_idle _ _ _).mono ?_
  rintro e u' w'' ⟨rfl, rfl, rfl⟩
  have hlt2 := H.out.lt
  exact ⟨.agg cs.toArray, results_cell_one rfl _ _ ⟨W.heap.size, 0, none⟩ _ rfl (run_loadVar_part _ _ _ 26 cs _ M3.out.row Tryz.underlying26 rfl (sizeH _ Hn.out)), rfl, L2.out.grownAt M1.out hlt2,
    grown_new (Lib.grownBy_trans (grown_none (Lib.grownBy_trans G.out K2.out)) L1.out) M1.out (by have := Hsz.out; omega)⟩

set_option maxHeartbeats 400000 in
theorem readH_miss (F : FuncId) (cap : Array Value) (p : Nat) (l : List UInt8) (w : World) (h : IsR w p (some l)) (hF : ∀ args w, (callFunc F args).run Tryz.prog w = .ok (.enter F args) w) (C : DoMiss F cap w p) :
    Calls Tryz.prog 137 #[.pointer (some ⟨p, 0, none⟩), .func (.func F) #[] cap] w fun e w' => e = .returned (.agg ZH.toArray) ∧ IsR w' p none ∧ w.grownBy w' (some p) := by
  have hmf : ∀ (fn : Fn) (first cap : Array Value) (w : World), (Instr.makeFunc fn first cap).run Tryz.prog w = .ok (.func fn first cap) w := fun _ _ _ _ => rfl
  obtain ⟨W, hW, o1, hsz, hg⟩ := One.below_box w (.pointer (some ⟨p, 0, none⟩)) 156
  have hlt := h.lt
  have HW := Lib.hid hW; have H := Lib.hid (h.grown hg); have G := Lib.hid hg; have O := Lib.hid o1; have Hsz := Lib.hid hsz; have HC := Lib.hid C
  clear hW h hg o1 hsz C
  go_enter_defers Tryz.func137, Tryz.ntmps137
  go_wp2_with (first | (rw [HW.out]; refine wpList_alloc_as rfl 26 rfl ZH ZH_info ?_))
  intro w2 k1 k2 k3
  obtain ⟨_, _, c1, _⟩ := H.out.grown k2
  have o2 := O.out.grown k2 (by simp)
  obtain ⟨d1, _⟩ := id o2
  have K1 := Lib.hid k1; have K2 := Lib.hid k2; have K3 := Lib.hid k3; have O2 := Lib.hid o2
  clear k1 k2 k3 o2
  go_wp2_with fail
  refine (HC.out w2 (Lib.grownBy_trans G.out K2.out)).mono ?_
  rintro e w3 ⟨rfl, k1, l2, k2⟩
  have hs := Hsz.out
  have hsz2 := K3.out
  have b3 := K1.out.grown k1 (by simp; omega)
  rw [hs] at b3
  have o3 := O2.out.grown k1 (by simp; omega)
  refine leaves_cons (f := 155) (args := #[.pointer (some ⟨w.heap.size, 0, none⟩), .pointer (some ⟨W.heap.size, 0, none⟩)]) (by simp) (by simp [go_sem]) ?_
  rw [hs]
  refine (readCatchZ_panicking ZH ZH_info ZH_length ZH_one w.heap.size p ZH l2 w3 o3 b3 ZH_length k2 hlt).mono ?_
  rintro e u' w'' ⟨rfl, rfl, q1, q2, w4, q3, q4⟩
  exact ⟨.agg ZH.toArray, results_cell_one rfl _ _ ⟨w.heap.size + 1, 0, none⟩ _ rfl (run_loadVar_part _ _ _ 26 ZH _ q1.row Tryz.underlying26 rfl (sizeH _ ZH_length)), rfl, q2,
    grown_new (Lib.grownBy_trans (Lib.grownBy_trans (grown_none (Lib.grownBy_trans G.out K2.out)) k1) q3) q4 (by omega)⟩

set_option maxHeartbeats 400000 in
theorem HashBody_ok (m p : Nat) (l : List UInt8) (w : World) (hm : One w m (.pointer (some ⟨p, 0, none⟩))) (h : IsR w p (some l)) (hl : 32 ≤ l.length) :
    DoOk 138 #[.pointer (some ⟨m, 0, none⟩)] w (.agg (Lib.byteCells (l.take 32)).toArray) p (l.drop 32) := by
  intro w1 hg
  have hm1 := hm.grown hg (by simp)
  have h1 := h.grown hg
  have Hm := Lib.hid hm1; have H1 := Lib.hid h1; have Hl := Lib.hid hl
  clear hm h hg hl hm1 h1
  go_enter Tryz.func138, Tryz.ntmps138
  go_wp2_with (refine wpList_alloc_as rfl 26 rfl ZH ZH_info ?_)
  intro w2 k1 k2 k3
  obtain ⟨d1, _⟩ := Hm.out.grown k2 (by simp)
  have K1 := Lib.hid k1; have K2 := Lib.hid k2
  clear k1 k2 k3
  go_wp2_with fail
  refine (take_yes p l 32 w2 (H1.out.grown K2.out) Hl.out).mono ?_
  rintro e w3 ⟨v, rfl, hr, h2, h3⟩
  have hlt := H1.out.lt
  have b3 := K1.out.grown h3 (by simp; omega)
  have H2 := Lib.hid h2; have H3 := Lib.hid h3; have B3 := Lib.hid b3
  obtain ⟨ao, c, rfl, hc1, hc2, h7⟩ := hr
  have hlen : (l.take 32).length = 32 := by rw [List.length_take]; have := Hl.out; omega
  rcases h7 with ⟨_, h7, _⟩ | ⟨g, o, rfl, hgl, hrow⟩
  · rw [h7] at hlen; simp at hlen
  generalize hL : l.take 32 = L at *
  have Hrow := Lib.hid hrow; have Hlen := Lib.hid hlen; have HL := Lib.hid hL
  rw [hlen]
  have hbl : (Lib.byteCells L).length = 32 := by rw [Lib.byteCells_length]; exact Hlen.out
  have Hbl := Lib.hid hbl
  have hsa := run_arrayAt (P := Tryz.prog) (w := w3) 26 5 32 (some ⟨g, o, none⟩) 32 c Tryz.underlying26 (Nat.le_refl _)
  clear h2 h3 b3 hrow hlen hL hbl d1
  go_wp2_with (first | (refine wpList_load_part rfl 26 _ rfl g o rfl (Lib.byteCells L) _ Hrow.out Tryz.underlying26 rfl (sizeH _ Hbl.out) ?_) | (refine wpList_store_whole rfl 26 _ _ rfl w1.heap.size rfl (Lib.byteCells L) ZH 26 rfl B3.out (by rw [Hbl.out]; rfl) (oneCell_bytes _) (sizeH _ Hbl.out) ?_))
  intro w4 m1 m2 m3
  go_wp2
  exact ⟨rfl, .agg (Lib.byteCells L).toArray, results_cell_one rfl _ _ ⟨w1.heap.size, 0, none⟩ _ rfl (run_loadVar_part _ _ _ 26 _ _ m3.row Tryz.underlying26 rfl (sizeH _ Hbl.out)), by rw [HL.out],
    grown_new (Lib.grownBy_trans (grown_none K2.out) H3.out) m1 (Nat.le_refl _), H2.out.grownAt m1 H1.out.lt⟩

set_option maxHeartbeats 400000 in
theorem HashBody_miss (m p : Nat) (l : List UInt8) (w : World) (hm : One w m (.pointer (some ⟨p, 0, none⟩))) (h : IsR w p (some l)) (hl : l.length < 32) :
    DoMiss 138 #[.pointer (some ⟨m, 0, none⟩)] w p := by
  intro w1 hg
  have hm1 := hm.grown hg (by simp)
  have h1 := h.grown hg
  have Hm := Lib.hid hm1; have H1 := Lib.hid h1; have Hl := Lib.hid hl
  clear hm h hg hl hm1 h1
  go_enter Tryz.func138, Tryz.ntmps138
  go_wp2_with (refine wpList_alloc_as rfl 26 rfl ZH ZH_info ?_)
  intro w2 k1 k2 k3
  obtain ⟨d1, _⟩ := Hm.out.grown k2 (by simp)
  have K2 := Lib.hid k2
  clear k1 k2 k3
  go_wp2_with fail
  refine (take_no p l 32 w2 (H1.out.grown K2.out) Hl.out).mono ?_
  rintro e w3 ⟨rfl, rfl⟩
  exact ⟨rfl, rfl, grown_none K2.out, l, H1.out.grown K2.out⟩

theorem rdHash_len (st : RS) : (rdHash st).1.length = 32 := by
  unfold rdHash
  cases st with
  | none => simp
  | some l =>
    dsimp only
    split
    · rename_i h; rw [List.length_take]; omega
    · simp

set_option maxHeartbeats 400000 in
theorem RHash (p : Nat) (st : RS) (w : World) (h : IsR w p st) :
    Calls Tryz.prog 98 #[.pointer (some ⟨p, 0, none⟩)] w (Reads (.agg (Lib.byteCells (rdHash st).1).toArray) (rdHash st).2 p w) := by
  have hmf : ∀ (fn : Fn) (first cap : Array Value) (w : World), (Instr.makeFunc fn first cap).run Tryz.prog w = .ok (.func fn first cap) w := fun _ _ _ _ => rfl
  obtain ⟨W, hW, o1, hsz, hg⟩ := One.below_box w (.pointer (some ⟨p, 0, none⟩)) 156
  have HW := Lib.hid hW; have H := Lib.hid (h.grown hg); have G := Lib.hid hg; have O := Lib.hid o1; have Hsz := Lib.hid hsz
  have hlt := h.lt
  clear hW h hg o1 hsz
  go_enter Tryz.func98, Tryz.ntmps98
  go_wp2_with (first | (rw [HW.out]; refine wpList_alloc_as rfl 26 rfl ZH ZH_info ?_))
  intro w2 k1 k2 k3
  have o2 := O.out.grown k2 (by simp)
  have C : Calls Tryz.prog 137 #[.pointer (some ⟨p, 0, none⟩), .func (.func 138) #[] #[.pointer (some ⟨w.heap.size, 0, none⟩)]] w2 (Reads (.agg (Lib.byteCells (rdHash st).1).toArray) (rdHash st).2 p w2) := by
    have hF := enters Tryz.func138 (by kernel_rfl) rfl
    have h2 := H.out.grown k2
    cases st with
    | none => exact readH_broken _ _ p w2 h2
    | some l =>
      by_cases hl : 32 ≤ l.length
      · simp only [rdHash, if_pos hl]
        exact readH_ok _ _ p l _ (Lib.byteCells (l.take 32)) (by rw [Lib.byteCells_length, List.length_take]; omega) (oneCell_bytes _) w2 h2 hF (HashBody_ok _ p l w2 o2 h2 hl)
      · simp only [rdHash, if_neg hl]
        exact readH_miss _ _ p l w2 h2 hF (HashBody_miss _ p l w2 o2 h2 (by omega))
  obtain ⟨d1, _⟩ := o2
  have K1 := Lib.hid k1; have K2 := Lib.hid k2; have HC := Lib.hid C
  clear C k1 k2 k3
  go_wp2_with fail
  refine HC.out.mono ?_
  rintro e w3 ⟨rfl, q1, q2⟩
  have hs := Hsz.out
  have hlw := H.out.lt
  have b3 := K1.out.grown q2 (by simp; omega)
  have hbl : (Lib.byteCells (rdHash st).1).length = 32 := by rw [Lib.byteCells_length]; exact rdHash_len st
  have Q1 := Lib.hid q1; have Q2 := Lib.hid q2; have B3 := Lib.hid b3; have Hbl := Lib.hid hbl
  generalize (rdHash st).1 = L at *
  clear q1 q2 b3 hbl hs d1
  go_wp2_with (refine wpList_store_whole rfl 26 _ _ rfl W.heap.size rfl (Lib.byteCells L) ZH 26 rfl B3.out (by rw [Hbl.out]; rfl) (oneCell_bytes _) (sizeH _ Hbl.out) ?_)
  intro w4 m1 m2 m3
  go_wp2
  exact ⟨rfl, .agg (Lib.byteCells L).toArray, results_cell_one rfl _ _ ⟨W.heap.size, 0, none⟩ _ rfl (run_loadVar_part _ _ _ 26 _ _ m3.row Tryz.underlying26 rfl (sizeH _ Hbl.out)), rfl,
    Q1.out.grownAt m1 hlw, grown_new (Lib.grownBy_trans (grown_none (Lib.grownBy_trans G.out K2.out)) Q2.out) m1 (by have := Hsz.out; omega)⟩

end Go.Proofs.YtcbkehnlgpcelaaGreatDoor
