/- Walks: wire.Writer. -/
import Derived.Test.YtcbkehnlgpcelaaGreatDoorW1
import Derived.Test.YtcbkehnlgpcelaaGreatDoorShelf
import Derived.Deep.RegionWith
import Derived.Lib.BufferWrite
import Derived.Deep.QuietTactic
import Derived.BigQuiet
namespace Go.Proofs.YtcbkehnlgpcelaaGreatDoor
open Go.RowKit

/-- the rest of a Writer's block: its field 'bad' -/
def WR (bad : Bool) : Nat → Option Value := fun i => if i = 3 then some (.bool bad) else none
/-- block b (from B on) is a Writer that holds bs -/
def IsW (B b : Nat) (bs : List UInt8) (bad : Bool) (w : World) : Prop := LibA.IsBuffer 133 (WR bad) 5 B b 0 (Lib.byteCells bs) w
/-- below B nothing is touched; other blocks but the Writer's and rows of bytes neither -/
def WK (B b : Nat) (w w' : World) : Prop := Below B w w' ∧ Lib.OthersKept 5 (some b) w w'
theorem WK.refl (B b : Nat) (w : World) : WK B b w w := ⟨Below.refl _ _, Lib.OthersKept.refl _ _ _⟩
theorem WK.trans {B b : Nat} {u v w : World} (h : WK B b u v) (k : WK B b v w) : WK B b u w := ⟨h.1.trans k.1, h.2.trans k.2⟩
theorem WK.size {B b : Nat} {w w' : World} (h : WK B b w w') : w.heap.size ≤ w'.heap.size := h.1.size
theorem IsW.lt {B b : Nat} {bs : List UInt8} {bad : Bool} {w : World} (h : IsW B b bs bad w) : b < w.heap.size := LibA.IsBuffer.lt h

/-- a number's bytes, the highest first -/
def be : Nat → Nat → List UInt8
  | 0, _ => []
  | k + 1, n => UInt8.ofNat (n / 256 ^ k) :: be k n
theorem be_length (k n : Nat) : (be k n).length = k := by induction k with | zero => rfl | succ k ih => simp [be, ih]

theorem byteCells_snoc (l : List UInt8) (c : UInt8) : Lib.byteCells l ++ [.int .u8 (c.toNat : Int)] = Lib.byteCells (l ++ [c]) := by simp [Lib.byteCells]

theorem byte_of (n m : Nat) : IntKind.u8.wrap ((n : Int) / 2 ^ (8 * (m : Int)).toNat) = ((UInt8.ofNat (n / 256 ^ m)).toNat : Int) := by
  have e1 : (8 * (m : Int)).toNat = 8 * m := by omega
  have e2 : ((n : Int) / 2 ^ (8 * m)) = ((n / 256 ^ m : Nat) : Int) := by
    rw [Int.natCast_ediv, show (256 : Nat) = 2 ^ 8 from rfl, ← Nat.pow_mul]; simp
  rw [e1, e2]
  simp [IntKind.wrap, IntKind.signed, IntKind.bits]
theorem IsW.drew {B b : Nat} {bs : List UInt8} {bad : Bool} {w : World} (h : IsW B b bs bad w) : IsW B b bs bad w.drew := h
theorem WK.drew {B b : Nat} {u w : World} (h : WK B b u w) : WK B b u w.drew := ⟨h.1.drew, h.2⟩

theorem writeByte_any (B b : Nat) (bs : List UInt8) (bad : Bool) (n m : Nat) (w : World) (h : IsW B b bs bad w) (hB : B ≤ w.heap.size) (hl : bs.length ≤ 1000000000000) :
    Calls Tryz.prog 109 #[.pointer (some ⟨b, 0, none⟩), .int .u8 (IntKind.u8.wrap ((n : Int) / 2 ^ (8 * (m : Int)).toNat))] w fun e w' =>
      e = .returned .nilIface ∧ IsW B b (bs ++ [UInt8.ofNat (n / 256 ^ m)]) bad w' ∧ WK B b w w' := by
  rw [byte_of]
  refine (Tryz.Buffer_WriteByte_at 133 (WR bad) B b 0 (Lib.byteCells bs) _ w h hB (Lib.byteCells_one _) (by rw [Lib.byteCells_length]; omega)).mono ?_
  rintro e w' ⟨rfl, h1, h2, h3⟩
  rw [byteCells_snoc] at h1
  exact ⟨rfl, h1, h2, h3⟩

set_option maxRecDepth 100000 in
set_option maxHeartbeats 400000 in
theorem put_any (B b : Nat) (bs : List UInt8) (bad : Bool) (n size : Nat) (w : World) (h : IsW B b bs bad w) (hB : B ≤ w.heap.size) (hn : n < 18446744073709551616) (hs : size ≤ 8) (hl : bs.length + size ≤ 1000000000000) :
    Calls Tryz.prog 78 #[.pointer (some ⟨b, 0, none⟩), .int .u64 n, .int .i64 size] w fun e w' => e = .returned (.tuple #[]) ∧ IsW B b (bs ++ be size n) bad w' ∧ WK B b w w' := by
  have H := Lib.hid h; have HB := Lib.hid hB; have Hn := Lib.hid hn; have Hl := Lib.hid hl; clear h hB hn hl
  go_enter Tryz.func78, Tryz.ntmps78
  go_wp2
  go_loopw [6] (fun i wr => ∃ k : Nat, k ≤ size ∧ i = .int .i64 ((k : Int) - 1) ∧ (∃ cs, cs ++ be k n = be size n ∧ IsW B b (bs ++ cs) bad wr ∧ cs.length + k = size) ∧ WK B b w wr) (fun i _ => (intOf i + 1).toNat)
  case atStart => exact ⟨size, Nat.le_refl _, rfl, ⟨[], rfl, by simpa using H.out, by simp⟩, WK.refl _ _ _⟩
  case round =>
    obtain ⟨k, hk, rfl, hcs, hwk⟩ := hrel
    have Hcs := Lib.hid hcs; have Hwk := Lib.hid hwk; clear hcs hwk
    by_cases h0 : k = 0
    · subst h0
      go_wp2
      go_end0
      obtain ⟨cs, e1, e2, e3⟩ := Hcs.out
      have e4 : cs = be size n := by simpa [be] using e1
      exact ⟨rfl, e4 ▸ e2, Hwk.out⟩
    · obtain ⟨m, rfl⟩ : ∃ m, k = m + 1 := ⟨k - 1, by omega⟩
      obtain ⟨cs, e1, e2, e3⟩ := Hcs.out
      have E1 := Lib.hid e1; have E2 := Lib.hid e2; have E3 := Lib.hid e3; clear e1 e2 e3 h0
      have q1 : IntKind.i64.wrap (8 * (m : Int)) = 8 * (m : Int) := IntWalk.i64_in _ (by omega)
      have q2 : 0 ≤ 8 * (m : Int) := by omega
      have q3 : 8 * (m : Int) < 64 := by omega
      have HB2 := Lib.hid (Nat.le_trans HB.out Hwk.out.size)
      have Hl2 : Hid ((bs ++ cs).length ≤ 1000000000000) := by
        have a1 := Hl.out; have a2 := E3.out
        show (bs ++ cs).length ≤ 1000000000000
        rw [List.length_append]; omega
      go_wp2
      go_region_with (go_at_call 109; refine (writeByte_any B b (bs ++ cs) bad n m _ (IsW.drew E2.out) HB2.out Hl2.out).mono ?_; rintro e w' ⟨rfl, h1, h2⟩)
      have H1 := Lib.hid h1; have H2 := Lib.hid h2; clear h1 h2
      go_wp2
      go_roundw
      case rel =>
        refine ⟨m, by omega, rfl, ⟨cs ++ [UInt8.ofNat (n / 256 ^ m)], ?_, ?_, ?_⟩, Hwk.out.trans (WK.trans (WK.drew (WK.refl _ _ _)) H2.out)⟩
        · rw [← E1.out]; simp [be]
        · have := H1.out; rwa [List.append_assoc] at this
        · have := E3.out; rw [List.length_append]; simp; omega
      case measure => simp [intOf]

/-- the eight bytes of a number, two's complement -/
def be64 (n : Int) : List UInt8 := be 8 (n % 18446744073709551616).toNat
theorem be64_length (n : Int) : (be64 n).length = 8 := be_length _ _
/-- the two bytes of a text's length -/
def be16 (n : Nat) : List UInt8 := be 2 n
theorem be16_length (n : Nat) : (be16 n).length = 2 := be_length _ _

theorem put8 (B b : Nat) (bs : List UInt8) (bad : Bool) (n : Int) (w : World) (h : IsW B b bs bad w) (hB : B ≤ w.heap.size) (hn0 : 0 ≤ n) (hn : n < 18446744073709551616) (hl : bs.length ≤ 100000000000) :
    Calls Tryz.prog 78 #[.pointer (some ⟨b, 0, none⟩), .int .u64 n, .int .i64 8] w fun e w' => e = .returned (.tuple #[]) ∧ IsW B b (bs ++ be64 n) bad w' ∧ WK B b w w' := by
  obtain ⟨k, rfl⟩ := Int.eq_ofNat_of_zero_le hn0
  have e : (be64 (k : Int)) = be 8 k := by
    unfold be64
    rw [show ((k : Int) % 18446744073709551616).toNat = k from by omega]
  rw [e]
  exact put_any B b bs bad k 8 w h hB (by omega) (by omega) (by omega)

theorem put2 (B b : Nat) (bs : List UInt8) (bad : Bool) (n : Nat) (w : World) (h : IsW B b bs bad w) (hB : B ≤ w.heap.size) (hn : n ≤ 65535) (hl : bs.length ≤ 100000000000) :
    Calls Tryz.prog 78 #[.pointer (some ⟨b, 0, none⟩), .int .u64 n, .int .i64 2] w fun e w' => e = .returned (.tuple #[]) ∧ IsW B b (bs ++ be16 n) bad w' ∧ WK B b w w' :=
  put_any B b bs bad n 2 w h hB (by omega) (by omega) (by omega)

set_option maxHeartbeats 400000 in
theorem Word_any (B b : Nat) (bs : List UInt8) (bad : Bool) (n : Int) (w : World) (h : IsW B b bs bad w) (hB : B ≤ w.heap.size) (hn0 : 0 ≤ n) (hn : n < 18446744073709551616) (hl : bs.length ≤ 100000000000) :
    Calls Tryz.prog 45 #[.pointer (some ⟨b, 0, none⟩), .int .u64 n] w fun e w' => e = .returned (.tuple #[]) ∧ IsW B b (bs ++ be64 n) bad w' ∧ WK B b w w' := by
  have C := Lib.hid (put8 B b bs bad n w h hB hn0 hn hl)
  clear hn hn0 h hB hl
  go_enter Tryz.func45, Tryz.ntmps45
  go_wp2_with (go_at_call 78; refine C.out.mono ?_; rintro e w' ⟨rfl, h1, h2⟩)
  go_end0
  exact ⟨rfl, h1, h2⟩

theorem be64_wrap (n : Int) : be64 (IntKind.u64.wrap n) = be64 n := by
  unfold be64; congr 1; simp [IntKind.wrap, IntKind.signed, IntKind.bits]

set_option maxHeartbeats 400000 in
theorem Number_any (B b : Nat) (bs : List UInt8) (bad : Bool) (n : Int) (w : World) (h : IsW B b bs bad w) (hB : B ≤ w.heap.size) (hl : bs.length ≤ 100000000000) :
    Calls Tryz.prog 42 #[.pointer (some ⟨b, 0, none⟩), .int .i64 n] w fun e w' => e = .returned (.tuple #[]) ∧ IsW B b (bs ++ be64 n) bad w' ∧ WK B b w w' := by
  have C := Word_any B b bs bad (IntKind.u64.wrap n) w h hB (by simp [IntKind.wrap, IntKind.signed, IntKind.bits]; omega) (by simp [IntKind.wrap, IntKind.signed, IntKind.bits]; omega) hl
  rw [be64_wrap] at C
  have C := Lib.hid C
  clear h hB hl
  go_enter Tryz.func42, Tryz.ntmps42
  go_wp2_with (go_at_call 45; refine C.out.mono ?_; rintro e w' ⟨rfl, h1, h2⟩)
  go_end0
  exact ⟨rfl, h1, h2⟩

set_option maxHeartbeats 400000 in
theorem NewWriter_any (w : World) :
    Calls Tryz.prog 73 #[] w fun e w' => e = .returned (.pointer (some ⟨w.heap.size, 0, none⟩)) ∧ IsW w.heap.size w.heap.size [] false w' ∧ Below w.heap.size w w' ∧ w'.heap.size = w.heap.size + 1 := by
  go_enter Tryz.func73, Tryz.ntmps73
  go_wp2
  go_ret
  refine ⟨rfl, LibA.zero_isBuffer (lr := 0) (Nat.le_refl _) ⟨#[.slice none 0 0, .int .i64 0, .int .i8 0, .bool false], heap_alloc_new _ _, rfl, rfl, rfl, ?_⟩, (Below.refl _ _).alloc (Nat.le_refl _) _, by simp⟩
  intro i hi
  have h3 : 3 ≤ i := by omega
  unfold WR
  by_cases h : i = 3
  · subst h; rfl
  · rw [if_neg h, Array.getElem?_eq_none]
    simp; omega

/-- a hash's cells -/
def hashV (l : List UInt8) : Value := .agg (Lib.byteCells l).toArray

theorem WriteRow_any (B b N : Nat) (bs l : List UInt8) (bad : Bool) (n c : Nat) (w : World) (h : IsW B b bs bad w) (hB : B ≤ w.heap.size) (hl : bs.length + l.length ≤ 100000000000) (hn : l.length = n) (hN : N ≠ b) (hr : RowAt w N 0 (Lib.byteCells l)) :
    Calls Tryz.prog 80 #[.pointer (some ⟨b, 0, none⟩), .slice (some ⟨N, 0, none⟩) n c] w fun e w' => e = .returned (.tuple #[.int .i64 n, .nilIface]) ∧ IsW B b (bs ++ l) bad w' ∧ WK B b w w' := by
  refine (Tryz.Buffer_Write_at 133 (WR bad) B b 0 (Lib.byteCells bs) (Lib.byteCells l) ⟨N, 0, none⟩ n c w h hB (Lib.byteCells_one _) (by rw [Lib.byteCells_length]; exact hn) hN ?_ (Lib.byteCells_one _) (by rw [Lib.byteCells_length]; omega)).mono ?_
  · intro j v hj
    have e : (⟨N, 0, none⟩ : Addr).add j = ⟨N, 0 + j, none⟩ := by unfold Addr.add; split <;> simp_all
    rw [e]; exact hr j v hj
  · rintro e w' ⟨rfl, h1, h2, h3⟩
    refine ⟨rfl, ?_, h2, h3⟩
    unfold IsW; rw [Lib.byteCells_append]; exact h1

theorem IsW.alloc {B b : Nat} {bs : List UInt8} {bad : Bool} {w : World} (h : IsW B b bs bad w) (o : Obj) : IsW B b bs bad (w.alloc o) := LibA.IsBuffer.alloc h o
theorem WK.alloc {B b : Nat} {u w : World} (h : WK B b u w) (hB : B ≤ w.heap.size) (o : Obj) : WK B b u (w.alloc o) := ⟨h.1.alloc hB o, h.2.alloc o⟩

set_option maxHeartbeats 400000 in
theorem Hash_any (B b : Nat) (bs l : List UInt8) (bad : Bool) (w : World) (h : IsW B b bs bad w) (hB : B ≤ w.heap.size) (hl : bs.length ≤ 10000000000) (h32 : l.length = 32) :
    Calls Tryz.prog 44 #[.pointer (some ⟨b, 0, none⟩), hashV l] w fun e w' => e = .returned (.tuple #[]) ∧ IsW B b (bs ++ l) bad w' ∧ WK B b w w' := by
  have C := WriteRow_any B b w.heap.size bs l bad 32 32 (w.alloc (.cells (Lib.byteCells l).toArray 26)).drew (IsW.drew (h.alloc _)) (by show B ≤ (w.alloc _).heap.size; simp; omega) (by omega) h32 (by have := h.lt; omega) (RowAt_box w _ _)
  have H := Lib.hid C
  have HB := Lib.hid hB
  clear h hB hl h32 C
  unfold hashV
  go_enter Tryz.func44, Tryz.ntmps44
  go_wp2
  go_region_with (go_at_call 80; refine H.out.mono ?_; rintro e w' ⟨rfl, h1, h2⟩)
  go_end0
  exact ⟨rfl, h1, (((WK.refl B b w).alloc HB.out _).drew).trans h2⟩

set_option maxHeartbeats 400000 in
theorem Text_ok (B b : Nat) (bs : List UInt8) (bad : Bool) (s : ByteArray) (w : World) (h : IsW B b bs bad w) (hB : B ≤ w.heap.size) (hl : bs.length ≤ 10000000000) (hs : s.size ≤ 4096) :
    Calls Tryz.prog 43 #[.pointer (some ⟨b, 0, none⟩), .string s] w fun e w' => e = .returned (.tuple #[]) ∧ IsW B b (bs ++ be16 s.size ++ s.data.toList) bad w' ∧ WK B b w w' := by
  have C := Lib.hid (put2 B b bs bad s.size w h hB (by omega) (by omega))
  have HB := Lib.hid hB; have Hl := Lib.hid hl
  clear h hB hl
  go_enter Tryz.func43, Tryz.ntmps43
  go_wp2_with (go_at_call 78; refine C.out.mono ?_; rintro e w1 ⟨rfl, h1, h2⟩)
  have D := Lib.hid (Tryz.Buffer_WriteString_at 133 (WR bad) B b 0 (Lib.byteCells (bs ++ be16 s.size)) s w1 h1 (Nat.le_trans HB.out h2.size) (Lib.byteCells_one _) (by rw [Lib.byteCells_length, List.length_append, be16_length]; have := Hl.out; omega))
  have H2 := Lib.hid h2
  clear h1 h2 C HB Hl
  go_wp2_with (go_at_call 79; refine D.out.mono ?_; rintro e w2 ⟨rfl, k1, k2, k3⟩)
  go_end0
  refine ⟨rfl, ?_, H2.out.trans ⟨k2, k3⟩⟩
  unfold IsW; rw [Lib.byteCells_append]; exact k1

set_option maxHeartbeats 400000 in
theorem Text_bad (B b : Nat) (bs : List UInt8) (bad : Bool) (s : ByteArray) (w : World) (h : IsW B b bs bad w) (hB : B ≤ w.heap.size) (hs : 4096 < s.size) (hm : s.size ≤ maxLen) :
    Calls Tryz.prog 43 #[.pointer (some ⟨b, 0, none⟩), .string s] w fun e w' => e = .returned (.tuple #[]) ∧ IsW B b bs true w' ∧ WK B b w w' := by
  have c3 : w.cell? ⟨b, 3, none⟩ = some (.bool bad) := LibA.IsBuffer.rest h 3 (by omega)
  have f3 : w.frozen? ⟨b, 3, none⟩ = false := LibA.IsBuffer.notFrozen h 3
  have H := Lib.hid h
  have HB := Lib.hid hB
  clear h hB
  unfold maxLen at hm
  go_enter Tryz.func43, Tryz.ntmps43
  go_wp2
  refine bodyPost_ret (results_none rfl _ _ _) rfl ?_
  have h1 := LibA.IsBuffer.setOther H.out 3 (by omega) (old := .bool bad) rfl (.bool true)
  have e : (fun j => if j = 3 then some (Value.bool true) else WR bad j) = WR true := by funext j; unfold WR; split <;> rfl
  rw [e] at h1
  exact ⟨rfl, h1, (Below.refl _ _).setCell (LibA.IsBuffer.cases H.out).1 _, (Lib.OthersKept.refl _ _ _).setCell ⟨b, 3, none⟩ rfl _⟩

/-- bytes in memory of the call's own, from block B on -/
def OwnB (B : Nat) (v : Value) (l : List UInt8) (w : World) : Prop := w.ownsRow B 5 1 v l.length (Lib.byteCells l)

theorem OwnB.mono {B B' : Nat} {v : Value} {l : List UInt8} {w : World} (h : OwnB B v l w) (hB : B' ≤ B) : OwnB B' v l w := by
  obtain ⟨h1, h2⟩ := h
  refine ⟨h1, ?_⟩
  rcases h2 with h2 | ⟨g, cap, cur, hv, hg, r⟩
  · exact Or.inl h2
  · exact Or.inr ⟨g, cap, cur, hv, by omega, r⟩

theorem OwnB.shape {B : Nat} {v : Value} {l : List UInt8} {w : World} (h : OwnB B v l w) : ∃ a n c, v = .slice a n c := by
  obtain ⟨h1, ⟨rfl, _⟩ | ⟨g, cap, cur, hv, _⟩⟩ := h
  · exact ⟨_, _, _, rfl⟩
  · exact ⟨_, _, _, hv⟩

set_option maxHeartbeats 400000 in
theorem BufBytes_any (B b : Nat) (bs : List UInt8) (bad : Bool) (w : World) (h : IsW B b bs bad w) (hpos : 0 < bs.length) :
    Calls Tryz.prog 108 #[.pointer (some ⟨b, 0, none⟩)] w fun e w' => ∃ g c, e = .returned (.slice (some ⟨g, 0, none⟩) bs.length c) ∧ RowAt w g 0 (Lib.byteCells bs) ∧ ∃ n, w' = w.drewN n := by
  obtain ⟨hBb, lr, h1 | ⟨g, cap, cur, hbk, hBg, hg, hlen, hcm, hcs, htk, hgb⟩⟩ := LibA.IsBuffer.cases h
  · obtain ⟨h1, _⟩ := h1
    have := congrArg List.length h1; rw [Lib.byteCells_length] at this; simp at this; subst this; simp at hpos
  · rw [Lib.byteCells_length] at hbk hlen htk
    have c0 := hbk.c0; have c1 := hbk.c1
    simp only [Nat.zero_add] at c1
    have hrow : RowAt w g 0 (Lib.byteCells bs) := by
      intro j v hj
      rw [Nat.zero_add, Lib.cell_of_heap hg, ← Array.getElem?_toList]
      have hlt : j < bs.length := by have := (List.getElem?_eq_some_iff.1 hj).1; rwa [Lib.byteCells_length] at this
      rw [← htk, List.getElem?_take_of_lt hlt] at hj
      exact hj
    have Hrow := Lib.hid hrow
    unfold maxLen at hcm
    clear h hbk hBg hg hcs htk hgb hrow hBb
    go_enter Tryz.func108, Tryz.ntmps108
    go_wp2
    go_quiet (fail)
    go_wp2
    go_ret
    exact ⟨g, cap, rfl, Hrow.out, _, rfl⟩

theorem Clone_row (g : Nat) (l : List UInt8) (c : Nat) (w : World) (hl : l.length ≤ 100000000000) (hr : RowAt w g 0 (Lib.byteCells l)) :
    Calls Tryz.prog 55 #[.slice (some ⟨g, 0, none⟩) l.length c] w fun e w' => ∃ v, e = .returned v ∧ OwnB w.heap.size v l w' ∧ Below w.heap.size w w' := by
  refine (Tryz.bytes_Clone_at ⟨g, 0, none⟩ l.length c (l.map fun x => (x.toNat : Int)) w (by simp) (by omega) ?_).mono ?_
  · intro i hi
    have e : (⟨g, 0, none⟩ : Addr).add i = ⟨g, 0 + i, none⟩ := by unfold Addr.add; split <;> simp_all
    rw [e, hr i _ (byteCells_get l i hi)]
    simp [List.getD, List.getElem?_eq_getElem hi]
  · rintro e w' ⟨v, rfl, h1, _, h3⟩
    refine ⟨v, rfl, ?_, h3⟩
    unfold OwnB Lib.byteCells
    rw [List.map_map] at h1
    exact h1

set_option maxHeartbeats 400000 in
theorem Bytes_ok (B b : Nat) (bs : List UInt8) (w : World) (h : IsW B b bs false w) (hpos : 0 < bs.length) (hl : bs.length ≤ 100000000000) :
    Calls Tryz.prog 74 #[.pointer (some ⟨b, 0, none⟩)] w fun e w' => ∃ v, e = .returned (.tuple #[v, .int .i64 0]) ∧ OwnB w.heap.size v bs w' ∧ Below w.heap.size w w' := by
  have c3 : w.cell? ⟨b, 3, none⟩ = some (.bool false) := LibA.IsBuffer.rest h 3 (by omega)
  have C := Lib.hid (BufBytes_any B b bs false w h hpos)
  have Hl := Lib.hid hl
  clear h hpos hl
  go_enter Tryz.func74, Tryz.ntmps74
  go_wp2_with (go_at_call 108; refine C.out.mono ?_; rintro e w1 ⟨g, c, rfl, k1, n, rfl⟩)
  have D := Lib.hid (Clone_row g bs c (w.drewN n) Hl.out (k1.drewN n))
  clear C k1
  go_wp2_with (go_at_call 55; refine D.out.mono ?_; rintro e w2 ⟨v, rfl, k1, k2⟩)
  go_ret2
  exact ⟨v, rfl, k1, (Below.drewN (Below.refl _ _) n).trans k2⟩

set_option maxHeartbeats 400000 in
theorem Bytes_bad (B b : Nat) (bs : List UInt8) (w : World) (h : IsW B b bs true w) :
    Calls Tryz.prog 74 #[.pointer (some ⟨b, 0, none⟩)] w fun e w' => e = .returned (.tuple #[.slice none 0 0, .int .i64 21]) ∧ w = w' := by
  have c3 : w.cell? ⟨b, 3, none⟩ = some (.bool true) := LibA.IsBuffer.rest h 3 (by omega)
  clear h
  go_enter Tryz.func74, Tryz.ntmps74
  go_wp2
  go_ret2
  exact ⟨rfl, rfl⟩

end Go.Proofs.YtcbkehnlgpcelaaGreatDoor
