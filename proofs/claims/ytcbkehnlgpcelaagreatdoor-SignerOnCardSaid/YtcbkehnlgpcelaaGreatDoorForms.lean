/- Walks: forms.caught, encode. -/
import Derived.Test.YtcbkehnlgpcelaaGreatDoorWire
import Derived.Recover
namespace Go.Proofs.YtcbkehnlgpcelaaGreatDoor
open Go.RowKit
set_option maxRecDepth 100000

set_option maxHeartbeats 400000 in
theorem caught_wrong (w : World) :
    Calls Tryz.prog 72 #[.iface 165 (.agg #[])] w fun e w' => e = .returned (.tuple #[]) ∧ Below w.heap.size w w' := by
  have ta : ∀ w, (Instr.typeAssert (.iface 165 (.agg #[])) 20 165 true).run Tryz.prog w = .ok (.tuple #[.agg #[], .bool true]) w := fun _ => by kernel_rfl
  go_enter Tryz.func72, Tryz.ntmps72
  go_wp2
  go_end0
  exact ⟨rfl, (Below.refl _ _).alloc (Nat.le_refl _) _⟩

/-- block m holds one cell, x -/
def One (w : World) (m : Nat) (x : Value) : Prop := w.cell? ⟨m, 0, none⟩ = some x ∧ w.frozen? ⟨m, 0, none⟩ = false

theorem One.below {B m : Nat} {x : Value} {w w' : World} (h : One w m x) (hb : Below B w w') (hm : m < B) : One w' m x :=
  ⟨(hb.cell (p := ⟨m, 0, none⟩) hm).trans h.1, (hb.frozen (p := ⟨m, 0, none⟩) hm).trans h.2⟩

set_option maxHeartbeats 400000 in
theorem encCatch_panicking (m k : Nat) (x y : Value) (w : World) (h1 : One w m x) (h2 : One w k y) (hne : m ≠ k) (hm : m < w.heap.size) (hk : k < w.heap.size) :
    CallsD Tryz.prog 71 #[.pointer (some ⟨m, 0, none⟩), .pointer (some ⟨k, 0, none⟩)] (.panicking wrongP) w fun e u' w' =>
      e = .returned (.tuple #[]) ∧ u' = .panicking [{ v := .iface 165 (.agg #[]), recovered := true }] ∧ ∃ w1, Below w.heap.size w w1 ∧ w' = (w1.setCell ⟨m, 0, none⟩ (.slice none 0 0)).setCell ⟨k, 0, none⟩ (.int .i64 61) := by
  have H1 := Lib.hid h1; have H2 := Lib.hid h2
  clear h1 h2
  refine callsD_of_wpS Tryz.func71 rfl fun c₀ cs hu => ?_
  simp only [Tryz.ntmps71, List.size_toArray, List.length_cons, List.length_nil, Nat.reduceAdd, Nat.reduceSub, Array.replicate_succ,
     Array.replicate_zero, List.push_toArray, List.append_toArray, List.nil_append, List.cons_append]
  apply wpS_seq
  apply wpS_region
  simp [wpOpsS, go_sem, recoverD, hu, wrongP, Exit.thenS]
  apply wpS_of_wp
  go_wp2_with fail
  refine (caught_wrong _).mono ?_; rintro e w1 ⟨rfl, hb⟩
  obtain ⟨d1, d2⟩ := H1.out.below hb hm
  obtain ⟨d3, d4⟩ := H2.out.below hb hk
  have d5 : (w1.setCell ⟨m, 0, none⟩ (.slice none 0 0)).cell? ⟨k, 0, none⟩ = some y := (World.cell?_setCell_other _ _ _ _ (by simp <;> exact hne)).trans d3
  have Hb := Lib.hid hb; clear hb
  go_wp2
  exact ⟨rfl, _, rfl, .tuple #[], results_none rfl _ _ _, rfl, rfl, w1, Hb.out, rfl⟩

set_option maxHeartbeats 400000 in
theorem encCatch_idle (p q : Addr) (w : World) :
    CallsD Tryz.prog 71 #[.pointer (some p), .pointer (some q)] .returning w fun e u' w' =>
      e = .returned (.tuple #[]) ∧ u' = .returning ∧ w' = w := by
  refine callsD_of_wpS Tryz.func71 rfl fun c₀ cs hu => ?_
  simp only [Tryz.ntmps71, List.size_toArray, List.length_cons, List.length_nil, Nat.reduceAdd, Nat.reduceSub, Array.replicate_succ,
     Array.replicate_zero, List.push_toArray, List.append_toArray, List.nil_append, List.cons_append]
  apply wpS_seq
  apply wpS_region
  simp [wpOpsS, go_sem, recoverD, hu, Exit.thenS]
  apply wpS_of_wp
  go_wp2
  exact ⟨rfl, _, by cases c₀; simp_all, .tuple #[], results_none rfl _ _ _, rfl, rfl, rfl⟩

/-- what a writing does that goes well: it writes bs -/
def Writes (F : FuncId) (cap : Array Value) (B0 : Nat) (w : World) (bs : List UInt8) (bad : Bool) : Prop :=
  ∀ w1 b, IsW b b [] false w1 → Below B0 w w1 → B0 ≤ b → Calls Tryz.prog F (#[.pointer (some ⟨b, 0, none⟩)] ++ cap) w1 fun e w2 =>
    e = .returned (.tuple #[]) ∧ IsW b b bs bad w2 ∧ Below b w1 w2
/-- one that goes wrong: it throws -/
def Throws (F : FuncId) (cap : Array Value) (B0 : Nat) (w : World) : Prop :=
  ∀ w1 b, IsW b b [] false w1 → Below B0 w w1 → B0 ≤ b → Calls Tryz.prog F (#[.pointer (some ⟨b, 0, none⟩)] ++ cap) w1 fun e w2 =>
    e = .panicked wrongP ∧ Below b w1 w2

theorem One.new (w : World) (x : Value) (T : TypeId) : One (w.alloc (.cells #[x] T)) w.heap.size x :=
  ⟨by rw [Lib.cell_of_heap (heap_alloc_new w _)]; rfl, by rw [Lib.frozen_of_heap (heap_alloc_new w _)]⟩

theorem two_new (w : World) (x y : Value) (T U : TypeId) : ∃ W0, (w.alloc (.cells #[x] T)).alloc (.cells #[y] U) = W0 ∧ One W0 w.heap.size x ∧ One W0 (w.heap.size + 1) y ∧ W0.heap.size = w.heap.size + 2 ∧ Below w.heap.size w W0 := by
  refine ⟨_, rfl, ?_, ?_, by simp, ((Below.refl _ _).alloc (Nat.le_refl _) _).alloc (by simp) _⟩
  · exact (One.new w x T).below (B := w.heap.size + 1) ((Below.refl _ _).alloc (by simp) _) (by omega)
  · have := One.new (w.alloc (.cells #[x] T)) y U
    rwa [show (w.alloc (.cells #[x] T)).heap.size = w.heap.size + 1 from by simp] at this

set_option maxHeartbeats 400000 in
theorem encode_yes (F : FuncId) (cap : Array Value) (bs : List UInt8) (w : World) (hF : ∀ args w, (callFunc F args).run Tryz.prog w = .ok (.enter F args) w) (C : Writes F cap w.heap.size w bs false) (hpos : 0 < bs.length) (hl : bs.length ≤ 100000000000) :
    Calls Tryz.prog 39 #[.func (.func F) #[] cap] w fun e w' => ∃ v, e = .returned (.tuple #[v, .int .i64 0]) ∧ OwnB w.heap.size v bs w' ∧ Below w.heap.size w w' := by
  have hmf : ∀ (fn : Fn) (first cap : Array Value) (w : World), (Instr.makeFunc fn first cap).run Tryz.prog w = .ok (.func fn first cap) w := fun _ _ _ _ => rfl
  obtain ⟨W0, hW, a1, a2, a3, a4⟩ := two_new w (.slice none 0 0) (.int .i64 0) 27 33
  have HC := Lib.hid C; have Hpos := Lib.hid hpos; have Hl := Lib.hid hl
  have A1 := Lib.hid a1; have A2 := Lib.hid a2; have A3 := Lib.hid a3; have A4 := Lib.hid a4; have HW := Lib.hid hW
  clear C hpos hl a1 a2 a3 a4 hW
  go_enter_defers Tryz.func39, Tryz.ntmps39
  go_wp2_with fail
  rw [HW.out]
  refine (NewWriter_any _).mono ?_
  rintro e w1 ⟨rfl, h1, h2, h3⟩
  rw [A3.out] at h1 h2 h3 ⊢
  have H1 := Lib.hid h1; have H2 := Lib.hid h2; have H3 := Lib.hid h3; clear h1 h2 h3
  go_wp2_with fail
  refine (HC.out w1 _ H1.out (A4.out.trans (H2.out.mono (by omega))) (by omega)).mono ?_
  rintro e w2 ⟨rfl, k1, k2⟩
  have K1 := Lib.hid k1; have K2 := Lib.hid k2; clear k1 k2
  go_wp2_with fail
  refine (Bytes_ok _ _ bs _ K1.out Hpos.out Hl.out).mono ?_
  rintro e w3 ⟨v, rfl, l1, l2⟩
  obtain ⟨va, vn, vc, rfl⟩ := l1.shape
  have B1 : Below (w.heap.size + 2) W0 w3 := (H2.out.trans K2.out).trans (l2.mono (by have := H2.out.size; have := K2.out.size; have := H3.out; have := A3.out; omega))
  obtain ⟨d1, d2⟩ := A1.out.below B1 (by omega)
  obtain ⟨d3, d4⟩ := A2.out.below B1 (by omega)
  have L1 := Lib.hid l1; have B1' := Lib.hid B1; clear l1 l2 B1
  have d5 : (w3.setCell ⟨w.heap.size, 0, none⟩ (.slice va vn vc)).cell? ⟨w.heap.size + 1, 0, none⟩ = some (.int .i64 0) := (World.cell?_setCell_other _ _ _ _ (by simp)).trans d3
  go_wp2_with (go_at_call 75; refine (must_yes _).mono ?_; rintro e w' ⟨rfl, rfl⟩)
  obtain ⟨W5, hW5, f1, f2, f3, f4⟩ : ∃ W5, (((w3.setCell ⟨w.heap.size, 0, none⟩ (.slice va vn vc)).setCell ⟨w.heap.size + 1, 0, none⟩ (.int .i64 0)).setCell ⟨w.heap.size, 0, none⟩ (.slice va vn vc)).setCell ⟨w.heap.size + 1, 0, none⟩ (.int .i64 0) = W5 ∧
      W5.cell? ⟨w.heap.size, 0, none⟩ = some (.slice va vn vc) ∧ W5.cell? ⟨w.heap.size + 1, 0, none⟩ = some (.int .i64 0) ∧ OwnB w.heap.size (.slice va vn vc) bs W5 ∧ Below w.heap.size w W5 := by
    refine ⟨_, rfl, ?_, ?_, ?_, ?_⟩
    · rw [World.cell?_setCell_other _ _ _ _ (by simp)]
      refine World.cell?_setCell_same' _ _ _ ?_
      rw [World.cell?_setCell_other _ _ _ _ (by simp), World.cell?_setCell_same' _ _ _ (by rw [d1]; rfl)]; rfl
    · refine World.cell?_setCell_same' _ _ _ ?_
      rw [World.cell?_setCell_other _ _ _ _ (by simp), World.cell?_setCell_same' _ _ _ (by rw [d5]; rfl)]; rfl
    · have hs : w.heap.size + 2 ≤ w2.heap.size := by have := H2.out.size; have := K2.out.size; have := H3.out; have := A3.out; omega
      exact OwnB.mono (ownsRow_setCell_below (ownsRow_setCell_below (ownsRow_setCell_below (ownsRow_setCell_below L1.out (by simp; omega) _) (by simp; omega) _) (by simp; omega) _) (by simp; omega) _) (by omega)
    · have h0 : Below w.heap.size w w3 := A4.out.trans (B1'.out.mono (by omega))
      exact (((h0.setCell (by simp) _).setCell (by simp) _).setCell (by simp) _).setCell (by simp) _
  rw [hW5]
  refine leaves_cons (f := 71) (args := #[.pointer (some ⟨w.heap.size, 0, none⟩), .pointer (some ⟨w.heap.size + 1, 0, none⟩)]) (by simp) (by simp [go_sem]) ?_
  refine (encCatch_idle _ _ _).mono ?_
  rintro e u' w'' ⟨rfl, rfl, rfl⟩
  exact ⟨.tuple #[.slice va vn vc, .int .i64 0], by simp [results, Tryz.results39, go_sem, f1, f2], _, rfl, f3, f4⟩

set_option maxHeartbeats 400000 in
theorem encode_no (F : FuncId) (cap : Array Value) (w : World) (hF : ∀ args w, (callFunc F args).run Tryz.prog w = .ok (.enter F args) w) (C : Throws F cap w.heap.size w) :
    Calls Tryz.prog 39 #[.func (.func F) #[] cap] w fun e w' => e = .returned (.tuple #[.slice none 0 0, .int .i64 61]) ∧ Below w.heap.size w w' := by
  have hmf : ∀ (fn : Fn) (first cap : Array Value) (w : World), (Instr.makeFunc fn first cap).run Tryz.prog w = .ok (.func fn first cap) w := fun _ _ _ _ => rfl
  obtain ⟨W0, hW, a1, a2, a3, a4⟩ := two_new w (.slice none 0 0) (.int .i64 0) 27 33
  have HC := Lib.hid C
  have A1 := Lib.hid a1; have A2 := Lib.hid a2; have A3 := Lib.hid a3; have A4 := Lib.hid a4; have HW := Lib.hid hW
  clear C a1 a2 a3 a4 hW
  go_enter_defers Tryz.func39, Tryz.ntmps39
  go_wp2_with fail
  rw [HW.out]
  refine (NewWriter_any _).mono ?_
  rintro e w1 ⟨rfl, h1, h2, h3⟩
  rw [A3.out] at h1 h2 h3 ⊢
  have H1 := Lib.hid h1; have H2 := Lib.hid h2; have H3 := Lib.hid h3; clear h1 h2 h3
  go_wp2_with fail
  refine (HC.out w1 _ H1.out (A4.out.trans (H2.out.mono (by omega))) (by omega)).mono ?_
  rintro e w2 ⟨rfl, k2⟩
  have B1 : Below (w.heap.size + 2) W0 w2 := H2.out.trans k2
  have hs : w.heap.size + 1 < w2.heap.size := by have := B1.size; have := A3.out; omega
  refine leaves_cons (f := 71) (args := #[.pointer (some ⟨w.heap.size, 0, none⟩), .pointer (some ⟨w.heap.size + 1, 0, none⟩)]) (by simp) (by simp [go_sem]) ?_
  refine (encCatch_panicking w.heap.size (w.heap.size + 1) _ _ _ (A1.out.below B1 (by omega)) (A2.out.below B1 (by omega)) (by omega) (by omega) (by omega)).mono ?_
  rintro e u' w'' ⟨rfl, rfl, w3, g1, rfl⟩
  have q1 := (A1.out.below B1 (by omega)).below g1 (by omega)
  have q2 := (A2.out.below B1 (by omega)).below g1 hs
  obtain ⟨W5, hW5, f1, f2, f4⟩ : ∃ W5, (w3.setCell ⟨w.heap.size, 0, none⟩ (.slice none 0 0)).setCell ⟨w.heap.size + 1, 0, none⟩ (.int .i64 61) = W5 ∧
      W5.cell? ⟨w.heap.size, 0, none⟩ = some (.slice none 0 0) ∧ W5.cell? ⟨w.heap.size + 1, 0, none⟩ = some (.int .i64 61) ∧ Below w.heap.size w W5 := by
    refine ⟨_, rfl, ?_, ?_, ?_⟩
    · rw [World.cell?_setCell_other _ _ _ _ (by simp)]
      exact World.cell?_setCell_same' _ _ _ (by rw [q1.1]; rfl)
    · refine World.cell?_setCell_same' _ _ _ ?_
      rw [World.cell?_setCell_other _ _ _ _ (by simp), q2.1]; rfl
    · have h0 : Below w.heap.size w w3 := (A4.out.trans (B1.mono (by omega))).trans (g1.mono (by omega))
      exact (h0.setCell (by simp) _).setCell (by simp) _
  rw [hW5]
  exact ⟨.tuple #[.slice none 0 0, .int .i64 61], by simp [results, Tryz.results39, go_sem, f1, f2], rfl, f4⟩

/-- under way: the Writer in block b holds bs (at most L bytes); since w1 nothing below b was touched -/
structure St (b : Nat) (w1 : World) (bs : List UInt8) (L : Nat) (w : World) : Prop where
  isW : IsW b b bs false w
  bel : Below b w1 w
  len : bs.length ≤ L
theorem St.start {b : Nat} {w : World} (h : IsW b b [] false w) : St b w [] 0 w := ⟨h, Below.refl _ _, by simp⟩
theorem St.lt {b L : Nat} {w1 w : World} {bs : List UInt8} (h : St b w1 bs L w) : b ≤ w.heap.size := Nat.le_of_lt h.isW.lt
/-- nothing that was there is touched (a check, say) -/
theorem St.over {b L : Nat} {w1 w w' : World} {bs : List UInt8} (h : St b w1 bs L w) (hb : Below w.heap.size w w') : St b w1 bs L w' :=
  ⟨LibA.IsBuffer.old h.isW hb, h.bel.trans (hb.mono h.lt), h.len⟩

/-- what a step of a writing leaves -/
def Step (b : Nat) (w1 : World) (bs : List UInt8) (L : Nat) (w : World) (e : Ending) (w' : World) : Prop := e = .returned (.tuple #[]) ∧ St b w1 bs L w' ∧ WK b b w w'

theorem Number_st {b L : Nat} {w1 w : World} {bs : List UInt8} (h : St b w1 bs L w) (hL : L ≤ 1000000000) (n : Int) :
    Calls Tryz.prog 42 #[.pointer (some ⟨b, 0, none⟩), .int .i64 n] w (Step b w1 (bs ++ be64 n) (L + 8) w) :=
  (Number_any b b bs false n w h.isW h.lt (by have := h.len; omega)).mono fun _ _ ⟨h1, h2, h3⟩ =>
    ⟨h1, ⟨h2, h.bel.trans h3.1, by rw [List.length_append, be64_length]; have := h.len; omega⟩, h3⟩
theorem Word_st {b L : Nat} {w1 w : World} {bs : List UInt8} (h : St b w1 bs L w) (hL : L ≤ 1000000000) (n : Int) (hn : 0 ≤ n ∧ n < 18446744073709551616) :
    Calls Tryz.prog 45 #[.pointer (some ⟨b, 0, none⟩), .int .u64 n] w (Step b w1 (bs ++ be64 n) (L + 8) w) :=
  (Word_any b b bs false n w h.isW h.lt hn.1 hn.2 (by have := h.len; omega)).mono fun _ _ ⟨h1, h2, h3⟩ =>
    ⟨h1, ⟨h2, h.bel.trans h3.1, by rw [List.length_append, be64_length]; have := h.len; omega⟩, h3⟩
theorem Hash_st {b L : Nat} {w1 w : World} {bs : List UInt8} (h : St b w1 bs L w) (hL : L ≤ 1000000000) (l : List UInt8) (hl : l.length = 32) :
    Calls Tryz.prog 44 #[.pointer (some ⟨b, 0, none⟩), hashV l] w (Step b w1 (bs ++ l) (L + 32) w) :=
  (Hash_any b b bs l false w h.isW h.lt (by have := h.len; omega) hl).mono fun _ _ ⟨h1, h2, h3⟩ =>
    ⟨h1, ⟨h2, h.bel.trans h3.1, by rw [List.length_append, hl]; have := h.len; omega⟩, h3⟩
/-- a text's bytes: its length, and they -/
def textL (s : ByteArray) : List UInt8 := be16 s.size ++ s.data.toList
theorem textL_length (s : ByteArray) : (textL s).length = 2 + s.size := by unfold textL; rw [List.length_append, be16_length]; simp
theorem Text_st {b L : Nat} {w1 w : World} {bs : List UInt8} (h : St b w1 bs L w) (hL : L ≤ 1000000000) (s : ByteArray) (M : Nat) (hs : s.size ≤ M) (hM : M ≤ 4096) :
    Calls Tryz.prog 43 #[.pointer (some ⟨b, 0, none⟩), .string s] w (Step b w1 (bs ++ textL s) (L + 2 + M) w) :=
  (Text_ok b b bs false s w h.isW h.lt (by have := h.len; omega) (by omega)).mono fun _ _ ⟨h1, h2, h3⟩ =>
    ⟨h1, ⟨by rw [List.append_assoc] at h2; exact h2, h.bel.trans h3.1, by rw [List.length_append, textL_length]; have := h.len; omega⟩, h3⟩

theorem enters {f : FuncId} {fn : Func} {c : Code} (hf : Tryz.prog.funcs[f]? = some fn) (hname : (fn.name == "runtime.NumGoroutine") = false) (hb : fn.body = some c) :
    ∀ args w, (callFunc f args).run Tryz.prog w = .ok (.enter f args) w := by
  intro args w
  have h1 : fn.name ≠ "runtime.NumGoroutine" := by simpa using hname
  simp [callFunc, hf, h1, hb, mark]

/-- bytes and no error -/
def Gives (l : List UInt8) (w : World) (e : Ending) (w' : World) : Prop := ∃ a n c, e = .returned (.tuple #[.slice a n c, .int .i64 0]) ∧ OwnB w.heap.size (.slice a n c) l w' ∧ Below w.heap.size w w'
/-- nothing, and the error -/
def Fails (w : World) (e : Ending) (w' : World) : Prop := e = .returned (.tuple #[.slice none 0 0, .int .i64 61]) ∧ Below w.heap.size w w'

theorem nameL_len {l : List UInt8} (h : nameL l = true) : 1 ≤ l.length ∧ l.length ≤ 16 := by
  unfold nameL at h; simp at h; exact ⟨h.1.1, h.1.2⟩
theorem hash_size (l : List UInt8) (h : l.length = 32) : (Tryz.prog.info? 26).map (·.size) = some (Lib.byteCells l).length := by
  rw [Lib.byteCells_length, h]; kernel_rfl
/-- a box, under a name -/
theorem box_as (w : World) (vs : List Value) (T : TypeId) : ∃ W, w.alloc (.cells vs.toArray T) = W ∧ W.heap[w.heap.size]? = some (.cells vs.toArray T (0, 0)) ∧ RowAt W w.heap.size 0 vs ∧ (∀ j, W.frozen? ⟨w.heap.size, j, none⟩ = false) ∧ Below w.heap.size w W ∧ W.heap.size = w.heap.size + 1 :=
  ⟨_, rfl, heap_alloc_new w _, RowAt_box w vs T, fun j => Lib.frozen_of_heap (heap_alloc_new w _) j, below_box w _, by simp⟩

end Go.Proofs.YtcbkehnlgpcelaaGreatDoor
