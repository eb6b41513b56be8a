/- Walks: wire.Reader. Walks: wire.read at uint64, int and string. Walks: wire.Reader's methods: Word, Number, Text, Count, End, NewReader. -/
import Derived.Test.YtcbkehnlgpcelaaGreatDoorForms
import Derived.Lib.BufferOwn
import Derived.Recover
import Derived.Deep.Cut
import Derived.Deep.CutRange
import Derived.Laws.IdiomStrings
namespace Go.Proofs.YtcbkehnlgpcelaaGreatDoor
open Go.RowKit
set_option maxRecDepth 100000

def missingP : List PanicEntry := [{ v := .iface 201 (.agg #[]), recovered := false }]

/-- a slice of bytes that reads as l -/
def RdB (w : World) (v : Value) (l : List UInt8) : Prop :=
  ∃ ao c, v = .slice ao l.length c ∧ l.length ≤ c ∧ c ≤ maxLen ∧ ((ao = none ∧ l = [] ∧ c = 0) ∨ ∃ g o, ao = some ⟨g, o, none⟩ ∧ g < w.heap.size ∧ RowAt w g o (Lib.byteCells l))

/-- block p is a Reader; none: it is broken; some l: these bytes are left -/
def IsR (w : World) (p : Nat) (st : Option (List UInt8)) : Prop :=
  w.frozen? ⟨p, 0, none⟩ = false ∧ w.frozen? ⟨p, 1, none⟩ = false ∧
  match st with
  | none => (∃ ao n c, w.cell? ⟨p, 0, none⟩ = some (.slice ao n c)) ∧ w.cell? ⟨p, 1, none⟩ = some (.bool true)
  | some l => w.cell? ⟨p, 1, none⟩ = some (.bool false) ∧ ∃ ao c, w.cell? ⟨p, 0, none⟩ = some (.slice ao l.length c) ∧ l.length ≤ c ∧ c ≤ maxLen ∧
      ((ao = none ∧ l = [] ∧ c = 0) ∨ ∃ g o, ao = some ⟨g, o, none⟩ ∧ g < p ∧ RowAt w g o (Lib.byteCells l))

theorem RowAt.grown {w w' : World} {b o : Nat} {vs : List Value} {row : Option Nat} (h : RowAt w b o vs) (hg : w.grownBy w' row) (hne : some b ≠ row) : RowAt w' b o vs :=
  fun j v hj => hg.cell (a := ⟨b, o + j, none⟩) (h j v hj) hne
theorem frozen_grown {w w' : World} {row : Option Nat} (hg : w.grownBy w' row) {a : Addr} (hb : a.block < w.heap.size) (hne : some a.block ≠ row) : w'.frozen? a = w.frozen? a :=
  World.frozen?_of_block (hg.block a.block hb hne)
theorem IsR.lt {w : World} {p : Nat} {st : Option (List UInt8)} (h : IsR w p st) : p < w.heap.size := by
  obtain ⟨_, _, h⟩ := h
  cases st with
  | none => exact World.block_lt_of_cell? w ⟨p, 1, none⟩ h.2
  | some l => exact World.block_lt_of_cell? w ⟨p, 1, none⟩ h.1
theorem IsR.grown {w w' : World} {p : Nat} {st : Option (List UInt8)} (h : IsR w p st) (hg : w.grownBy w' none) : IsR w' p st := by
  have hlt := h.lt
  obtain ⟨h1, h2, h⟩ := h
  refine ⟨(frozen_grown hg hlt (by simp)).trans h1, (frozen_grown hg hlt (by simp)).trans h2, ?_⟩
  cases st with
  | none => obtain ⟨⟨ao, n, c, h3⟩, h4⟩ := h; exact ⟨⟨ao, n, c, hg.cell h3 (by simp)⟩, hg.cell h4 (by simp)⟩
  | some l =>
    obtain ⟨h3, ao, c, h4, h5, h6, h7⟩ := h
    refine ⟨hg.cell h3 (by simp), ao, c, hg.cell h4 (by simp), h5, h6, ?_⟩
    rcases h7 with h7 | ⟨g, o, e, hp, hr⟩
    · exact Or.inl h7
    · exact Or.inr ⟨g, o, e, hp, hr.grown hg (by simp)⟩

set_option maxHeartbeats 400000 in
theorem rmust_yes (r : Value) (w : World) : Calls Tryz.prog 135 #[r, .bool true] w fun e w' => e = .returned (.tuple #[]) ∧ w = w' := by
  go_enter Tryz.func135, Tryz.ntmps135
  go_wp2
  go_end0
  exact ⟨rfl, rfl⟩
set_option maxHeartbeats 400000 in
theorem rmust_no (r : Value) (w : World) : Calls Tryz.prog 135 #[r, .bool false] w fun e w' => e = .panicked missingP ∧ w = w' := by
  go_enter Tryz.func135, Tryz.ntmps135
  go_wp2
  exact ⟨rfl, rfl, rfl⟩

set_option maxHeartbeats 400000 in
theorem take_no (p : Nat) (l : List UInt8) (n : Nat) (w : World) (h : IsR w p (some l)) (hn : l.length < n) :
    Calls Tryz.prog 136 #[.pointer (some ⟨p, 0, none⟩), .int .i64 n] w fun e w' => e = .panicked missingP ∧ w = w' := by
  obtain ⟨_, _, _, ao, c, h4, h5, h6, _⟩ := h
  have d : decide (n ≤ l.length) = false := by simp; omega
  unfold maxLen at h6
  go_enter Tryz.func136, Tryz.ntmps136
  go_wp2_with (go_at_call 135; refine (rmust_no _ _).mono ?_; rintro e w' ⟨rfl, rfl⟩)
  exact ⟨rfl, rfl, rfl⟩

theorem RowAt.take {w : World} {b o : Nat} {l : List UInt8} (h : RowAt w b o (Lib.byteCells l)) (n : Nat) : RowAt w b o (Lib.byteCells (l.take n)) := by
  intro j v hj
  unfold Lib.byteCells at hj
  rw [List.map_take] at hj
  have hlt : j < ((l.map fun b => Value.int .u8 b.toNat).take n).length := (List.getElem?_eq_some_iff.1 hj).1
  rw [List.length_take] at hlt
  rw [List.getElem?_take_of_lt (by omega)] at hj
  exact h j v hj
theorem RowAt.drop {w : World} {b o : Nat} {l : List UInt8} (h : RowAt w b o (Lib.byteCells l)) (n : Nat) : RowAt w b (o + n) (Lib.byteCells (l.drop n)) := by
  intro j v hj
  unfold Lib.byteCells at hj
  rw [List.map_drop, List.getElem?_drop] at hj
  rw [Nat.add_assoc]
  exact h (n + j) v hj
theorem RowAt.other {w : World} {b o p i : Nat} {vs : List Value} (h : RowAt w b o vs) (hne : b ≠ p) (x : Value) : RowAt (w.setCell ⟨p, i, none⟩ x) b o vs :=
  h.grown (Lib.grownBy_setCell w p i x) (by simp; exact hne)
theorem addr_add (g o n : Nat) : (⟨g, o, none⟩ : Addr).add n = ⟨g, o + n, none⟩ := by unfold Addr.add; split <;> simp_all

theorem take_end {p : Nat} {l : List UInt8} {n c : Nat} {ao ao' : Option Addr} {w : World} (h : IsR w p (some l)) (hn : n ≤ l.length) (h4 : w.cell? ⟨p, 0, none⟩ = some (.slice ao l.length c)) (h5 : l.length ≤ c) (h6 : c ≤ 2 ^ 63 - 1)
    (h7 : (ao = none ∧ l = [] ∧ c = 0) ∨ ∃ g o, ao = some ⟨g, o, none⟩ ∧ g < p ∧ RowAt w g o (Lib.byteCells l)) (ha : (ao' = ao ∧ c = n) ∨ (ao' = ao.map (·.add n))) :
    RdB (w.setCell ⟨p, 0, none⟩ (.slice ao' (l.length - n) (c - n))) (.slice ao n c) (l.take n) ∧ IsR (w.setCell ⟨p, 0, none⟩ (.slice ao' (l.length - n) (c - n))) p (some (l.drop n)) ∧ w.grownBy (w.setCell ⟨p, 0, none⟩ (.slice ao' (l.length - n) (c - n))) (some p) := by
  have hlt := h.lt
  obtain ⟨f0, f1, h3, _⟩ := h
  have hs : (w.setCell ⟨p, 0, none⟩ (.slice ao' (l.length - n) (c - n))).heap.size = w.heap.size := by simp [World.setCell]
  have et : (l.take n).length = n := by rw [List.length_take]; omega
  refine ⟨?_, ⟨by simpa using f0, by simpa using f1, (World.cell?_setCell_other _ _ _ _ (by simp)).trans h3, ao', c - n, ?_, ?_, ?_, ?_⟩, Lib.grownBy_setCell w p 0 _⟩
  · refine ⟨ao, c, by rw [et], by omega, by unfold maxLen; omega, ?_⟩
    rcases h7 with ⟨e1, e2, e3⟩ | ⟨g, o, e1, e2, e4⟩
    · left; subst e2; exact ⟨e1, by simp, e3⟩
    · right; exact ⟨g, o, e1, by omega, (e4.take n).other (by omega) _⟩
  · rw [World.cell?_setCell_same' _ _ _ (by rw [h4]; rfl), List.length_drop]
  · rw [List.length_drop]; omega
  · unfold maxLen; omega
  · rcases h7 with ⟨e1, e2, e3⟩ | ⟨g, o, e1, e2, e4⟩
    · left; subst e1 e2 e3
      refine ⟨?_, by simp, by omega⟩
      rcases ha with ⟨ha, _⟩ | ha
      · exact ha
      · simpa using ha
    · right; subst e1
      rcases ha with ⟨ha, hc⟩ | ha
      · refine ⟨g, o, ha, e2, ?_⟩
        have : l.drop n = [] := List.drop_eq_nil_of_le (by omega)
        rw [this]; intro j v hj; simp [Lib.byteCells] at hj
      · refine ⟨g, o + n, by rw [ha]; simp [addr_add], e2, (e4.drop n).other (by omega) _⟩

set_option maxHeartbeats 400000 in
theorem take_yes (p : Nat) (l : List UInt8) (n : Nat) (w : World) (h : IsR w p (some l)) (hn : n ≤ l.length) :
    Calls Tryz.prog 136 #[.pointer (some ⟨p, 0, none⟩), .int .i64 n] w fun e w' => ∃ v, e = .returned v ∧ RdB w' v (l.take n) ∧ IsR w' p (some (l.drop n)) ∧ w.grownBy w' (some p) := by
  have Hh := Lib.hid h
  obtain ⟨f0, _, _, ao, c, h4, h5, h6, h7⟩ := h
  have d : decide (n ≤ l.length) = true := by simp; omega
  have H7 := Lib.hid h7
  unfold maxLen at h6
  clear h7
  go_enter Tryz.func136, Tryz.ntmps136
  go_wp2_with (go_at_call 135; refine (rmust_yes _ _).mono ?_; rintro e w' ⟨rfl, rfl⟩)
  · have hc : c = n := by assumption
    go_ret
    have := take_end (ao' := ao) Hh.out hn h4 h5 h6 H7.out (Or.inl ⟨rfl, hc⟩)
    subst hc
    rw [Nat.sub_self] at this
    exact ⟨_, rfl, this⟩
  · go_ret
    exact ⟨_, rfl, take_end Hh.out hn h4 h5 h6 H7.out (Or.inr rfl)⟩

/-- bytes as a number, the highest first -/
def ofBe (l : List UInt8) : Nat := l.foldl (fun n c => n * 256 + c.toNat) 0
theorem ofBe_snoc (l : List UInt8) (c : UInt8) : ofBe (l ++ [c]) = ofBe l * 256 + c.toNat := by simp [ofBe]
theorem ofBe_lt (l : List UInt8) : ofBe l < 256 ^ l.length := by
  have key : ∀ (l : List UInt8) (n : Nat), l.foldl (fun n c => n * 256 + c.toNat) n < (n + 1) * 256 ^ l.length := by
    intro l
    induction l with
    | nil => intro n; simp
    | cons c l ih =>
      intro n
      have h1 := ih (n * 256 + c.toNat)
      have h2 : c.toNat < 256 := c.toNat_lt
      simp only [List.foldl_cons, List.length_cons, Nat.pow_succ]
      refine Nat.lt_of_lt_of_le h1 ?_
      rw [Nat.mul_comm (256 ^ l.length) 256, ← Nat.mul_assoc]
      exact Nat.mul_le_mul_right _ (by omega)
  have := key l 0
  simpa [ofBe] using this

theorem or_byte (a : Nat) (u : UInt8) (ha : a < 256 ^ 7) : bits .or .u64 (IntKind.u64.wrap ((a : Int) * 256)) (IntKind.u64.wrap (u.toNat : Int)) = ((a * 256 + u.toNat : Nat) : Int) := by
  have hu : u.toNat < 256 := u.toNat_lt
  have ha' : a < 72057594037927936 := by simpa using ha
  rw [IntKind.wrap_u64, IntKind.wrap_u64, Int.emod_eq_of_lt (by omega) (by omega), Int.emod_eq_of_lt (by omega) (by omega)]
  rw [bits_join .u64 64 (by decide) (fun n h0 h1 => by rw [IntKind.wrap_u64]; exact Int.emod_eq_of_lt h0 (by simpa using h1)) 8 _ _ (by omega) (by omega) (by omega) (by omega) (by omega) (by omega)]
  omega
theorem pow_step (a k : Nat) (u : UInt8) (ha : a < 256 ^ k) : a * 256 + u.toNat < 256 ^ (k + 1) := by
  have hu : u.toNat < 256 := u.toNat_lt
  rw [Nat.pow_succ]; omega

set_option maxHeartbeats 400000 in
theorem word_no (p : Nat) (l : List UInt8) (n : Nat) (w : World) (h : IsR w p (some l)) (hn : l.length < n) :
    Calls Tryz.prog 134 #[.pointer (some ⟨p, 0, none⟩), .int .i64 n] w fun e w' => e = .panicked missingP ∧ w = w' := by
  have C := Lib.hid (take_no p l n w h hn)
  clear h hn
  go_enter Tryz.func134, Tryz.ntmps134
  go_wp2_with (go_at_call 136; refine C.out.mono ?_; rintro e w' ⟨rfl, rfl⟩)
  exact ⟨rfl, rfl, rfl⟩

set_option maxHeartbeats 400000 in
theorem word_yes (p : Nat) (l : List UInt8) (n : Nat) (w : World) (h : IsR w p (some l)) (hn : n ≤ l.length) (h8 : n ≤ 8) (h0 : 0 < n) :
    Calls Tryz.prog 134 #[.pointer (some ⟨p, 0, none⟩), .int .i64 n] w fun e w' => e = .returned (.int .u64 (ofBe (l.take n) : Nat)) ∧ IsR w' p (some (l.drop n)) ∧ w.grownBy w' (some p) := by
  have C := Lib.hid (take_yes p l n w h hn)
  have Hn := Lib.hid hn
  clear h hn
  go_enter Tryz.func134, Tryz.ntmps134
  go_wp2_with fail
  refine C.out.mono ?_
  rintro e w1 ⟨v, rfl, hr, h2, h3⟩
  have H2 := Lib.hid h2; have H3 := Lib.hid h3
  obtain ⟨ao, c, rfl, _, hc, h7⟩ := hr
  rcases h7 with ⟨_, h7, _⟩ | ⟨g, o, rfl, hg, hrow⟩
  · have := Hn.out; rw [← List.length_eq_zero_iff, List.length_take] at h7; omega
  have hlen : (l.take n).length = n := by rw [List.length_take]; have := Hn.out; omega
  generalize hL : l.take n = L at hlen hrow
  have Hrow := Lib.hid hrow; have HL := Lib.hid hL; have Hlen := Lib.hid hlen
  rw [hlen]
  clear h2 h3 hrow hL hlen C hc
  go_wp2_with fail
  go_loop [5, 12] (fun x i => ∃ k : Nat, k ≤ n ∧ i = .int .i64 k ∧ ∃ a : Nat, x = .int .u64 a ∧ a < 256 ^ k ∧ a = ofBe (L.take k)) (fun _ i => n - (intOf i).toNat)
  case atStart => exact ⟨0, Nat.zero_le _, rfl, 0, rfl, by simp, rfl⟩
  case round =>
    obtain ⟨k, hk, rfl, a, rfl, ha, hx⟩ := hrel
    have Ha := Lib.hid ha; have Hx := Lib.hid hx; clear ha hx
    by_cases hlt : k < n
    · have hk2 : k < L.length := by rw [Hlen.out]; exact hlt
      have hcell := Hrow.out k _ (byteCells_get _ k hk2)
      obtain ⟨u, hu⟩ : ∃ u, u = L[k] := ⟨_, rfl⟩
      rw [← hu] at hcell
      have hs : ofBe (L.take (k + 1)) = ofBe (L.take k) * 256 + u.toNat := by rw [List.take_succ_eq_append_getElem hk2, ofBe_snoc, ← hu]
      have Hs := Lib.hid hs
      clear hk2 hu hs
      go_wp2
      have h7 : a < 256 ^ 7 := Nat.lt_of_lt_of_le Ha.out (Nat.pow_le_pow_right (by decide) (by omega))
      refine ⟨⟨k + 1, by omega, by go_num, a * 256 + u.toNat, by rw [or_byte a u h7], pow_step a k u Ha.out, by rw [Hs.out, Hx.out]⟩, by simp [intOf]; omega⟩
    · go_wp2
      go_ret
      have hkn : k = n := by omega
      subst hkn
      have e : ofBe (l.take k) = a := by
        rw [HL.out, Hx.out, List.take_of_length_le (by rw [Hlen.out]; omega)]
      exact ⟨by rw [e]; rfl, H2.out, H3.out⟩

/-- a reading that goes well: it gives v, and l is left -/
def DoOk (F : FuncId) (cap : Array Value) (w : World) (v : Value) (p : Nat) (l : List UInt8) : Prop :=
  ∀ w1, w.grownBy w1 none → Calls Tryz.prog F cap w1 fun e w2 => e = .returned v ∧ w1.grownBy w2 (some p) ∧ IsR w2 p (some l)
/-- one that is broken off: bytes are missing -/
def DoMiss (F : FuncId) (cap : Array Value) (w : World) (p : Nat) : Prop :=
  ∀ w1, w.grownBy w1 none → Calls Tryz.prog F cap w1 fun e w2 => e = .panicked missingP ∧ w1.grownBy w2 (some p) ∧ ∃ l, IsR w2 p (some l)

theorem below_grown {w w' : World} (h : Below w.heap.size w w') : w.grownBy w' none := ⟨h.os, h.tape, h.output, h.size, fun k hk _ => h.block k hk⟩
theorem grown_none {w w' : World} {row : Option Nat} (h : w.grownBy w' none) : w.grownBy w' row := ⟨h.os, h.tape, h.output, h.size, fun k hk _ => h.block k hk (by simp)⟩
theorem One.grown {w w' : World} {m : Nat} {x : Value} {row : Option Nat} (h : One w m x) (hg : w.grownBy w' row) (hne : some m ≠ row) : One w' m x :=
  ⟨hg.cell h.1 hne, (frozen_grown hg (World.block_lt_of_cell? w ⟨m, 0, none⟩ h.1) hne).trans h.2⟩
theorem One.set {w : World} {m : Nat} {x : Value} (h : One w m x) (y : Value) : One (w.setCell ⟨m, 0, none⟩ y) m y :=
  ⟨World.cell?_setCell_same' _ _ _ (by rw [h.1]; rfl), by simpa using h.2⟩
theorem One.other {w : World} {m p i : Nat} {x y : Value} (h : One w m x) (hne : m ≠ p) : One (w.setCell ⟨p, i, none⟩ y) m x :=
  ⟨(World.cell?_setCell_other _ _ _ _ (by simp <;> intro e <;> exact absurd e.symm hne)).trans h.1, by simpa using h.2⟩
/-- the reader breaks -/
theorem IsR.breaks {w : World} {p : Nat} {l : List UInt8} (h : IsR w p (some l)) : IsR (w.setCell ⟨p, 1, none⟩ (.bool true)) p none := by
  obtain ⟨f0, f1, h3, ao, c, h4, _⟩ := h
  exact ⟨by simpa using f0, by simpa using f1, ⟨ao, _, c, (World.cell?_setCell_other _ _ _ _ (by simp)).trans h4⟩, World.cell?_setCell_same' _ _ _ (by rw [h3]; rfl)⟩
theorem IsR.other {w : World} {p m i : Nat} {st : Option (List UInt8)} (h : IsR w p st) (hne : p < m) (y : Value) : IsR (w.setCell ⟨m, i, none⟩ y) p st := by
  have hc : ∀ j, (w.setCell ⟨m, i, none⟩ y).cell? ⟨p, j, none⟩ = w.cell? ⟨p, j, none⟩ := fun j => World.cell?_setCell_other _ _ _ _ (by simp <;> omega)
  obtain ⟨f0, f1, h⟩ := h
  refine ⟨by simpa using f0, by simpa using f1, ?_⟩
  cases st with
  | none => obtain ⟨⟨ao, n, c, h3⟩, h4⟩ := h; exact ⟨⟨ao, n, c, (hc 0).trans h3⟩, (hc 1).trans h4⟩
  | some l =>
    obtain ⟨h3, ao, c, h4, h5, h6, h7⟩ := h
    refine ⟨(hc 1).trans h3, ao, c, (hc 0).trans h4, h5, h6, ?_⟩
    rcases h7 with h7 | ⟨g, o, e, hp, hr⟩
    · exact Or.inl h7
    · exact Or.inr ⟨g, o, e, hp, hr.other (by omega) _⟩

/-- a store into a new block -/
theorem grown_trans' {w w1 : World} {p m : Nat} {row : Option Nat} (h : w.grownBy w1 row) (hm : w.heap.size ≤ m) (y : Value) (hrow : row = none ∨ row = some p := by simp) : w.grownBy (w1.setCell ⟨m, 0, none⟩ y) (some p) := by
  refine ⟨h.os, h.tape, h.output, by have := h.size; simpa [World.setCell] using this, fun k hk hne => ?_⟩
  rw [Below.heap_setCell _ _ _ _ (by simp; omega)]
  refine h.block k hk ?_
  rcases hrow with rfl | rfl
  · simp
  · exact hne

set_option maxHeartbeats 400000 in
theorem readCatchW_panicking (m k p : Nat) (x : Value) (l : List UInt8) (w : World) (h1 : One w m (.pointer (some ⟨p, 0, none⟩))) (h2 : One w k x) (hr : IsR w p (some l)) (_hpk : p ≠ k) :
    CallsD Tryz.prog 156 #[.pointer (some ⟨m, 0, none⟩), .pointer (some ⟨k, 0, none⟩)] (.panicking missingP) w fun e u' w' =>
      e = .returned (.tuple #[]) ∧ u' = .panicking [{ v := .iface 201 (.agg #[]), recovered := true }] ∧ ∃ w1, Below w.heap.size w w1 ∧ w' = (w1.setCell ⟨p, 1, none⟩ (.bool true)).setCell ⟨k, 0, none⟩ (.int .u64 0) := by
  have ta : ∀ w, (Instr.typeAssert (.iface 201 (.agg #[])) 20 201 true).run Tryz.prog w = .ok (.tuple #[.agg #[], .bool true]) w := fun _ => by kernel_rfl
  obtain ⟨w1, hw1⟩ : ∃ w1, w.alloc (.cells #[] 201) = w1 := ⟨_, rfl⟩
  have hb : Below w.heap.size w w1 := hw1 ▸ below_box w _
  have h1' := h1.below hb (World.block_lt_of_cell? w ⟨m, 0, none⟩ h1.1)
  have h2' := h2.below hb (World.block_lt_of_cell? w ⟨k, 0, none⟩ h2.1)
  have hr' := hr.grown (below_grown hb)
  obtain ⟨_, f1, c1, _⟩ := hr'
  obtain ⟨d1, _⟩ := h1'
  obtain ⟨d2, f2⟩ := h2'
  have d3 : (w1.setCell ⟨p, 1, none⟩ (.bool true)).cell? ⟨k, 0, none⟩ = some x := (World.cell?_setCell_other _ _ _ _ (by simp <;> exact hpk)).trans d2
  have Hb := Lib.hid hb; have HW := Lib.hid hw1
  clear hb h1 h2 hr hw1
  refine callsD_of_wpS Tryz.func156 rfl fun c₀ cs hu => ?_
  simp only [Tryz.ntmps156, List.size_toArray, List.length_cons, List.length_nil, Nat.reduceAdd, Nat.reduceSub, Array.replicate_succ,
     Array.replicate_zero, List.push_toArray, List.append_toArray, List.nil_append, List.cons_append]
  apply wpS_seq
  apply wpS_region
  simp [wpOpsS, go_sem, recoverD, hu, missingP, Exit.thenS]
  apply wpS_of_wp
  go_upto_region 3 with (fail)
  rw [HW.out]
  go_wp2
  exact ⟨rfl, _, rfl, .tuple #[], results_none rfl _ _ _, rfl, rfl, w1, Hb.out, rfl⟩

set_option maxHeartbeats 400000 in
theorem readCatchW_idle (p q : Addr) (w : World) :
    CallsD Tryz.prog 156 #[.pointer (some p), .pointer (some q)] .returning w fun e u' w' =>
      e = .returned (.tuple #[]) ∧ u' = .returning ∧ w' = w := by
  refine callsD_of_wpS Tryz.func156 rfl fun c₀ cs hu => ?_
  simp only [Tryz.ntmps156, List.size_toArray, List.length_cons, List.length_nil, Nat.reduceAdd, Nat.reduceSub, Array.replicate_succ,
     Array.replicate_zero, List.push_toArray, List.append_toArray, List.nil_append, List.cons_append]
  apply wpS_seq
  apply wpS_region
  simp [wpOpsS, go_sem, recoverD, hu, Exit.thenS]
  apply wpS_of_wp
  go_wp2
  exact ⟨rfl, _, by cases c₀; simp_all, .tuple #[], results_none rfl _ _ _, rfl, rfl, rfl⟩

set_option maxHeartbeats 400000 in
theorem readW_broken (F : FuncId) (cap : Array Value) (p : Nat) (w : World) (h : IsR w p none) :
    Calls Tryz.prog 139 #[.pointer (some ⟨p, 0, none⟩), .func (.func F) #[] cap] w fun e w' => e = .returned (.int .u64 0) ∧ IsR w' p none ∧ w.grownBy w' (some p) := by
  obtain ⟨W0, hW, a1, a2, a3, a4⟩ := two_new w (.pointer (some ⟨p, 0, none⟩)) (.int .u64 0) 156 22
  have hlt := h.lt
  have g0 := below_grown a4
  have h0 := h.grown g0
  obtain ⟨_, _, _, c1⟩ := h0
  obtain ⟨d1, _⟩ := a1
  obtain ⟨d2, f2⟩ := a2
  have HW := Lib.hid hW; have H := Lib.hid (h.grown g0); have G := Lib.hid g0; have A3 := Lib.hid a3; have D2 := Lib.hid (show One W0 (w.heap.size + 1) (.int .u64 0) from ⟨d2, f2⟩)
  clear hW h g0 a3 a4
  go_enter_defers Tryz.func139, Tryz.ntmps139
  go_upto_region 1 with (fail)
  rw [HW.out]
  go_wp2
  have d9 := D2.out.set (.int .u64 0)
  exact ⟨.int .u64 0, by simp [results, Tryz.results139, go_sem, d9.1], rfl, H.out.other (by omega) _, grown_trans' G.out (by simp) _⟩

set_option maxHeartbeats 400000 in
theorem readW_ok (F : FuncId) (cap : Array Value) (p : Nat) (l l' : List UInt8) (v : Value) (V : Int) (hv : v = .int .u64 V) (w : World) (h : IsR w p (some l)) (hF : ∀ args w, (callFunc F args).run Tryz.prog w = .ok (.enter F args) w) (C : DoOk F cap w v p l') :
    Calls Tryz.prog 139 #[.pointer (some ⟨p, 0, none⟩), .func (.func F) #[] cap] w fun e w' => e = .returned v ∧ IsR w' p (some l') ∧ w.grownBy w' (some p) := by
  subst hv
  have hmf : ∀ (fn : Fn) (first cap : Array Value) (w : World), (Instr.makeFunc fn first cap).run Tryz.prog w = .ok (.func fn first cap) w := fun _ _ _ _ => rfl
  obtain ⟨W0, hW, a1, a2, a3, a4⟩ := two_new w (.pointer (some ⟨p, 0, none⟩)) (.int .u64 0) 156 22
  have hlt := h.lt
  have g0 := below_grown a4
  have h0 := h.grown g0
  obtain ⟨_, _, c1, _⟩ := h0
  obtain ⟨d1, _⟩ := id a1
  have HW := Lib.hid hW; have G := Lib.hid g0; have A3 := Lib.hid a3; have A2 := Lib.hid a2; have A1 := Lib.hid a1; have HC := Lib.hid C
  clear hW h g0 a3 a4 a2 a1 C
  go_enter_defers Tryz.func139, Tryz.ntmps139
  go_upto_region 1 with (fail)
  rw [HW.out]
  go_wp2_with fail
  refine (HC.out W0 G.out).mono ?_
  rintro e w2 ⟨rfl, k1, k2⟩
  have hsz := A3.out
  obtain ⟨d5, f5⟩ := A2.out.grown k1 (by simp; omega)
  have K1 := Lib.hid k1; have K2 := Lib.hid k2; have D5 := Lib.hid (show One w2 (w.heap.size + 1) (.int .u64 0) from ⟨d5, f5⟩)
  clear k1 k2 c1 d1 hsz
  go_wp2
  refine leaves_cons (f := 156) (args := #[.pointer (some ⟨w.heap.size, 0, none⟩), .pointer (some ⟨w.heap.size + 1, 0, none⟩)]) (by simp) (by simp [go_sem]) ?_
  refine (readCatchW_idle _ _ _).mono ?_
  rintro e u' w'' ⟨rfl, rfl, rfl⟩
  have d9 := D5.out.set (.int .u64 V)
  refine ⟨.int .u64 V, by simp [results, Tryz.results139, go_sem, d9.1], rfl, K2.out.other (by omega) _, grown_trans' (Lib.grownBy_trans (grown_none G.out) K1.out) (by simp) _⟩

set_option maxHeartbeats 400000 in
theorem readW_miss (F : FuncId) (cap : Array Value) (p : Nat) (l : List UInt8) (w : World) (h : IsR w p (some l)) (hF : ∀ args w, (callFunc F args).run Tryz.prog w = .ok (.enter F args) w) (C : DoMiss F cap w p) :
    Calls Tryz.prog 139 #[.pointer (some ⟨p, 0, none⟩), .func (.func F) #[] cap] w fun e w' => e = .returned (.int .u64 0) ∧ IsR w' p none ∧ w.grownBy w' (some p) := by
  have hmf : ∀ (fn : Fn) (first cap : Array Value) (w : World), (Instr.makeFunc fn first cap).run Tryz.prog w = .ok (.func fn first cap) w := fun _ _ _ _ => rfl
  obtain ⟨W0, hW, a1, a2, a3, a4⟩ := two_new w (.pointer (some ⟨p, 0, none⟩)) (.int .u64 0) 156 22
  have hlt := h.lt
  have g0 := below_grown a4
  have h0 := h.grown g0
  obtain ⟨_, _, c1, _⟩ := h0
  obtain ⟨d1, _⟩ := id a1
  have HW := Lib.hid hW; have G := Lib.hid g0; have A3 := Lib.hid a3; have A2 := Lib.hid a2; have A1 := Lib.hid a1; have HC := Lib.hid C
  clear hW h g0 a3 a4 a2 a1 C
  go_enter_defers Tryz.func139, Tryz.ntmps139
  go_upto_region 1 with (fail)
  rw [HW.out]
  go_wp2_with fail
  refine (HC.out W0 G.out).mono ?_
  rintro e w2 ⟨rfl, k1, l2, k2⟩
  have b1 := A1.out.grown k1 (by simp; omega)
  have hsz := A3.out
  have b2 := A2.out.grown k1 (by simp; omega)
  refine leaves_cons (f := 156) (args := #[.pointer (some ⟨w.heap.size, 0, none⟩), .pointer (some ⟨w.heap.size + 1, 0, none⟩)]) (by simp) (by simp [go_sem]) ?_
  refine (readCatchW_panicking w.heap.size (w.heap.size + 1) p _ l2 w2 b1 b2 k2 (by omega)).mono ?_
  rintro e u' w'' ⟨rfl, rfl, w3, g1, rfl⟩
  have b3 := (b2.below g1 (World.block_lt_of_cell? w2 ⟨w.heap.size + 1, 0, none⟩ b2.1)).other (i := 1) (y := .bool true) (p := p) (by omega)
  have d9 := b3.set (.int .u64 0)
  have k3 := (k2.grown (below_grown g1)).breaks
  exact ⟨.int .u64 0, by simp [results, Tryz.results139, go_sem, d9.1], rfl, k3.other (by omega) _,
    grown_trans' (Lib.grownBy_setB (Lib.grownBy_below (Lib.grownBy_trans (grown_none G.out) k1) g1) 1 _) (by simp) _⟩

set_option maxHeartbeats 400000 in
theorem readCatchS_panicking (m k p : Nat) (x : Value) (l : List UInt8) (w : World) (h1 : One w m (.pointer (some ⟨p, 0, none⟩))) (h2 : One w k x) (hr : IsR w p (some l)) (_hpk : p ≠ k) :
    CallsD Tryz.prog 154 #[.pointer (some ⟨m, 0, none⟩), .pointer (some ⟨k, 0, none⟩)] (.panicking missingP) w fun e u' w' =>
      e = .returned (.tuple #[]) ∧ u' = .panicking [{ v := .iface 201 (.agg #[]), recovered := true }] ∧ ∃ w1, Below w.heap.size w w1 ∧ w' = (w1.setCell ⟨p, 1, none⟩ (.bool true)).setCell ⟨k, 0, none⟩ (.string ⟨#[]⟩) := by
  have ta : ∀ w, (Instr.typeAssert (.iface 201 (.agg #[])) 20 201 true).run Tryz.prog w = .ok (.tuple #[.agg #[], .bool true]) w := fun _ => by kernel_rfl
  obtain ⟨w1, hw1⟩ : ∃ w1, w.alloc (.cells #[] 201) = w1 := ⟨_, rfl⟩
  have hb : Below w.heap.size w w1 := hw1 ▸ below_box w _
  have h1' := h1.below hb (World.block_lt_of_cell? w ⟨m, 0, none⟩ h1.1)
  have h2' := h2.below hb (World.block_lt_of_cell? w ⟨k, 0, none⟩ h2.1)
  have hr' := hr.grown (below_grown hb)
  obtain ⟨_, f1, c1, _⟩ := hr'
  obtain ⟨d1, _⟩ := h1'
  obtain ⟨d2, f2⟩ := h2'
  have d3 : (w1.setCell ⟨p, 1, none⟩ (.bool true)).cell? ⟨k, 0, none⟩ = some x := (World.cell?_setCell_other _ _ _ _ (by simp <;> exact hpk)).trans d2
  have Hb := Lib.hid hb; have HW := Lib.hid hw1
  clear hb h1 h2 hr hw1
  refine callsD_of_wpS Tryz.func154 rfl fun c₀ cs hu => ?_
  simp only [Tryz.ntmps154, List.size_toArray, List.length_cons, List.length_nil, Nat.reduceAdd, Nat.reduceSub, Array.replicate_succ,
     Array.replicate_zero, List.push_toArray, List.append_toArray, List.nil_append, List.cons_append]
  apply wpS_seq
  apply wpS_region
  simp [wpOpsS, go_sem, recoverD, hu, missingP, Exit.thenS]
  apply wpS_of_wp
  go_upto_region 3 with (fail)
  rw [HW.out]
  go_wp2
  exact ⟨rfl, _, rfl, .tuple #[], results_none rfl _ _ _, rfl, rfl, w1, Hb.out, rfl⟩

set_option maxHeartbeats 400000 in
theorem readCatchS_idle (p q : Addr) (w : World) :
    CallsD Tryz.prog 154 #[.pointer (some p), .pointer (some q)] .returning w fun e u' w' =>
      e = .returned (.tuple #[]) ∧ u' = .returning ∧ w' = w := by
  refine callsD_of_wpS Tryz.func154 rfl fun c₀ cs hu => ?_
  simp only [Tryz.ntmps154, List.size_toArray, List.length_cons, List.length_nil, Nat.reduceAdd, Nat.reduceSub, Array.replicate_succ,
     Array.replicate_zero, List.push_toArray, List.append_toArray, List.nil_append, List.cons_append]
  apply wpS_seq
  apply wpS_region
  simp [wpOpsS, go_sem, recoverD, hu, Exit.thenS]
  apply wpS_of_wp
  go_wp2
  exact ⟨rfl, _, by cases c₀; simp_all, .tuple #[], results_none rfl _ _ _, rfl, rfl, rfl⟩

set_option maxHeartbeats 400000 in
theorem readS_broken (F : FuncId) (cap : Array Value) (p : Nat) (w : World) (h : IsR w p none) :
    Calls Tryz.prog 132 #[.pointer (some ⟨p, 0, none⟩), .func (.func F) #[] cap] w fun e w' => e = .returned (.string ⟨#[]⟩) ∧ IsR w' p none ∧ w.grownBy w' (some p) := by
  obtain ⟨W0, hW, a1, a2, a3, a4⟩ := two_new w (.pointer (some ⟨p, 0, none⟩)) (.string ⟨#[]⟩) 156 9
  have hlt := h.lt
  have g0 := below_grown a4
  have h0 := h.grown g0
  obtain ⟨_, _, _, c1⟩ := h0
  obtain ⟨d1, _⟩ := a1
  obtain ⟨d2, f2⟩ := a2
  have HW := Lib.hid hW; have H := Lib.hid (h.grown g0); have G := Lib.hid g0; have A3 := Lib.hid a3; have D2 := Lib.hid (show One W0 (w.heap.size + 1) (.string ⟨#[]⟩) from ⟨d2, f2⟩)
  clear hW h g0 a3 a4
  go_enter_defers Tryz.func132, Tryz.ntmps132
  go_upto_region 1 with (fail)
  rw [HW.out]
  go_wp2
  have d9 := D2.out.set (.string ⟨#[]⟩)
  exact ⟨.string ⟨#[]⟩, by simp [results, Tryz.results132, go_sem, d9.1], rfl, H.out.other (by omega) _, grown_trans' G.out (by simp) _⟩

set_option maxHeartbeats 400000 in
theorem readS_ok (F : FuncId) (cap : Array Value) (p : Nat) (l l' : List UInt8) (v : Value) (V : ByteArray) (hv : v = .string V) (w : World) (h : IsR w p (some l)) (hF : ∀ args w, (callFunc F args).run Tryz.prog w = .ok (.enter F args) w) (C : DoOk F cap w v p l') :
    Calls Tryz.prog 132 #[.pointer (some ⟨p, 0, none⟩), .func (.func F) #[] cap] w fun e w' => e = .returned v ∧ IsR w' p (some l') ∧ w.grownBy w' (some p) := by
  subst hv
  have hmf : ∀ (fn : Fn) (first cap : Array Value) (w : World), (Instr.makeFunc fn first cap).run Tryz.prog w = .ok (.func fn first cap) w := fun _ _ _ _ => rfl
  obtain ⟨W0, hW, a1, a2, a3, a4⟩ := two_new w (.pointer (some ⟨p, 0, none⟩)) (.string ⟨#[]⟩) 156 9
  have hlt := h.lt
  have g0 := below_grown a4
  have h0 := h.grown g0
  obtain ⟨_, _, c1, _⟩ := h0
  obtain ⟨d1, _⟩ := id a1
  have HW := Lib.hid hW; have G := Lib.hid g0; have A3 := Lib.hid a3; have A2 := Lib.hid a2; have A1 := Lib.hid a1; have HC := Lib.hid C
  clear hW h g0 a3 a4 a2 a1 C
  go_enter_defers Tryz.func132, Tryz.ntmps132
  go_upto_region 1 with (fail)
  rw [HW.out]
  go_wp2_with fail
  refine (HC.out W0 G.out).mono ?_
  rintro e w2 ⟨rfl, k1, k2⟩
  have hsz := A3.out
  obtain ⟨d5, f5⟩ := A2.out.grown k1 (by simp; omega)
  have K1 := Lib.hid k1; have K2 := Lib.hid k2; have D5 := Lib.hid (show One w2 (w.heap.size + 1) (.string ⟨#[]⟩) from ⟨d5, f5⟩)
  clear k1 k2 c1 d1 hsz
  go_wp2
  refine leaves_cons (f := 154) (args := #[.pointer (some ⟨w.heap.size, 0, none⟩), .pointer (some ⟨w.heap.size + 1, 0, none⟩)]) (by simp) (by simp [go_sem]) ?_
  refine (readCatchS_idle _ _ _).mono ?_
  rintro e u' w'' ⟨rfl, rfl, rfl⟩
  have d9 := D5.out.set (.string V)
  refine ⟨.string V, by simp [results, Tryz.results132, go_sem, d9.1], rfl, K2.out.other (by omega) _, grown_trans' (Lib.grownBy_trans (grown_none G.out) K1.out) (by simp) _⟩

set_option maxHeartbeats 400000 in
theorem readS_miss (F : FuncId) (cap : Array Value) (p : Nat) (l : List UInt8) (w : World) (h : IsR w p (some l)) (hF : ∀ args w, (callFunc F args).run Tryz.prog w = .ok (.enter F args) w) (C : DoMiss F cap w p) :
    Calls Tryz.prog 132 #[.pointer (some ⟨p, 0, none⟩), .func (.func F) #[] cap] w fun e w' => e = .returned (.string ⟨#[]⟩) ∧ IsR w' p none ∧ w.grownBy w' (some p) := by
  have hmf : ∀ (fn : Fn) (first cap : Array Value) (w : World), (Instr.makeFunc fn first cap).run Tryz.prog w = .ok (.func fn first cap) w := fun _ _ _ _ => rfl
  obtain ⟨W0, hW, a1, a2, a3, a4⟩ := two_new w (.pointer (some ⟨p, 0, none⟩)) (.string ⟨#[]⟩) 156 9
  have hlt := h.lt
  have g0 := below_grown a4
  have h0 := h.grown g0
  obtain ⟨_, _, c1, _⟩ := h0
  obtain ⟨d1, _⟩ := id a1
  have HW := Lib.hid hW; have G := Lib.hid g0; have A3 := Lib.hid a3; have A2 := Lib.hid a2; have A1 := Lib.hid a1; have HC := Lib.hid C
  clear hW h g0 a3 a4 a2 a1 C
  go_enter_defers Tryz.func132, Tryz.ntmps132
  go_upto_region 1 with (fail)
  rw [HW.out]
  go_wp2_with fail
  refine (HC.out W0 G.out).mono ?_
  rintro e w2 ⟨rfl, k1, l2, k2⟩
  have b1 := A1.out.grown k1 (by simp; omega)
  have hsz := A3.out
  have b2 := A2.out.grown k1 (by simp; omega)
  refine leaves_cons (f := 154) (args := #[.pointer (some ⟨w.heap.size, 0, none⟩), .pointer (some ⟨w.heap.size + 1, 0, none⟩)]) (by simp) (by simp [go_sem]) ?_
  refine (readCatchS_panicking w.heap.size (w.heap.size + 1) p _ l2 w2 b1 b2 k2 (by omega)).mono ?_
  rintro e u' w'' ⟨rfl, rfl, w3, g1, rfl⟩
  have b3 := (b2.below g1 (World.block_lt_of_cell? w2 ⟨w.heap.size + 1, 0, none⟩ b2.1)).other (i := 1) (y := .bool true) (p := p) (by omega)
  have d9 := b3.set (.string ⟨#[]⟩)
  have k3 := (k2.grown (below_grown g1)).breaks
  exact ⟨.string ⟨#[]⟩, by simp [results, Tryz.results132, go_sem, d9.1], rfl, k3.other (by omega) _,
    grown_trans' (Lib.grownBy_setB (Lib.grownBy_below (Lib.grownBy_trans (grown_none G.out) k1) g1) 1 _) (by simp) _⟩

/-- what is left to be read; none: broken -/
abbrev RS := Option (List UInt8)
def rdWord (st : RS) : Nat × RS := match st with | none => (0, none) | some l => if 8 ≤ l.length then (ofBe (l.take 8), some (l.drop 8)) else (0, none)
def rdNum (st : RS) : Int × RS := (wrap64 (rdWord st).1, (rdWord st).2)
def rdText (st : RS) : List UInt8 × RS := match st with
  | none => ([], none)
  | some l => if 2 ≤ l.length ∧ ofBe (l.take 2) ≤ 4096 ∧ ofBe (l.take 2) ≤ (l.drop 2).length then ((l.drop 2).take (ofBe (l.take 2)), some ((l.drop 2).drop (ofBe (l.take 2)))) else ([], none)
def rdCount (most : Int) (st : RS) : Int × RS := match st with
  | none => (0, none)
  | some l => if 8 ≤ l.length ∧ 0 ≤ wrap64 (ofBe (l.take 8)) ∧ wrap64 (ofBe (l.take 8)) ≤ most then (wrap64 (ofBe (l.take 8)), some (l.drop 8)) else (0, none)
def rdHash (st : RS) : List UInt8 × RS := match st with
  | none => (List.replicate 32 0, none)
  | some l => if 32 ≤ l.length then (l.take 32, some (l.drop 32)) else (List.replicate 32 0, none)
def rdEnd (st : RS) : Int := match st with | some [] => 0 | _ => 21

/-- a reading's post -/
def Reads (v : Value) (st : RS) (p : Nat) (w : World) (e : Ending) (w' : World) : Prop := e = .returned v ∧ IsR w' p st ∧ w.grownBy w' (some p)

set_option maxHeartbeats 400000 in
theorem WordBody_ok (m p : Nat) (l : List UInt8) (w : World) (hm : One w m (.pointer (some ⟨p, 0, none⟩))) (h : IsR w p (some l)) (hl : 8 ≤ l.length) :
    DoOk 140 #[.pointer (some ⟨m, 0, none⟩)] w (.int .u64 (ofBe (l.take 8) : Nat)) p (l.drop 8) := by
  intro w1 hg
  obtain ⟨c0, _⟩ := hm.grown hg (by simp)
  have C := Lib.hid (word_yes p l 8 w1 (h.grown hg) hl (by omega) (by omega))
  clear hm h hg hl
  go_enter Tryz.func140, Tryz.ntmps140
  go_wp2_with (go_at_call 134; refine C.out.mono ?_; rintro e w' ⟨rfl, h1, h2⟩)
  go_ret
  exact ⟨rfl, h2, h1⟩
set_option maxHeartbeats 400000 in
theorem WordBody_miss (m p : Nat) (l : List UInt8) (w : World) (hm : One w m (.pointer (some ⟨p, 0, none⟩))) (h : IsR w p (some l)) (hl : l.length < 8) :
    DoMiss 140 #[.pointer (some ⟨m, 0, none⟩)] w p := by
  intro w1 hg
  obtain ⟨c0, _⟩ := hm.grown hg (by simp)
  have H := Lib.hid (h.grown hg)
  have C := Lib.hid (word_no p l 8 w1 (h.grown hg) hl)
  clear hm h hg hl
  go_enter Tryz.func140, Tryz.ntmps140
  go_wp2_with (go_at_call 134; refine C.out.mono ?_; rintro e w' ⟨rfl, rfl⟩)
  exact ⟨rfl, rfl, World.grownBy.refl _ _, l, H.out⟩

/-- read's three cases in one -/
theorem readW_any (F : FuncId) (cap : Array Value) (p : Nat) (st : RS) (r : Int × RS) (w : World) (h : IsR w p st) (hF : ∀ args w, (callFunc F args).run Tryz.prog w = .ok (.enter F args) w)
    (C : (st = none ∧ r = (0, none)) ∨ ∃ l, st = some l ∧ ((∃ l', r.2 = some l' ∧ DoOk F cap w (.int .u64 r.1) p l') ∨ (r = (0, none) ∧ DoMiss F cap w p))) :
    Calls Tryz.prog 139 #[.pointer (some ⟨p, 0, none⟩), .func (.func F) #[] cap] w (Reads (.int .u64 r.1) r.2 p w) := by
  rcases C with ⟨rfl, rfl⟩ | ⟨l, rfl, ⟨l', e, C⟩ | ⟨rfl, C⟩⟩
  · exact readW_broken F cap p w h
  · rw [e]; exact readW_ok F cap p l l' _ r.1 rfl w h hF C
  · exact readW_miss F cap p l w h hF C
theorem readS_any (F : FuncId) (cap : Array Value) (p : Nat) (st : RS) (r : List UInt8 × RS) (w : World) (h : IsR w p st) (hF : ∀ args w, (callFunc F args).run Tryz.prog w = .ok (.enter F args) w)
    (C : (st = none ∧ r = ([], none)) ∨ ∃ l, st = some l ∧ ((∃ l', r.2 = some l' ∧ DoOk F cap w (.string ⟨r.1.toArray⟩) p l') ∨ (r = ([], none) ∧ DoMiss F cap w p))) :
    Calls Tryz.prog 132 #[.pointer (some ⟨p, 0, none⟩), .func (.func F) #[] cap] w (Reads (.string ⟨r.1.toArray⟩) r.2 p w) := by
  rcases C with ⟨rfl, rfl⟩ | ⟨l, rfl, ⟨l', e, C⟩ | ⟨rfl, C⟩⟩
  · exact readS_broken F cap p w h
  · rw [e]; exact readS_ok F cap p l l' _ ⟨r.1.toArray⟩ rfl w h hF C
  · exact readS_miss F cap p l w h hF C

theorem One.below_box (w : World) (x : Value) (T : TypeId) : ∃ W, w.alloc (.cells #[x] T) = W ∧ One W w.heap.size x ∧ W.heap.size = w.heap.size + 1 ∧ w.grownBy W none :=
  ⟨_, rfl, One.new w x T, by simp, World.grownBy_alloc w _ none⟩

set_option maxHeartbeats 400000 in
theorem RWord (p : Nat) (st : RS) (w : World) (h : IsR w p st) :
    Calls Tryz.prog 99 #[.pointer (some ⟨p, 0, none⟩)] w (Reads (.int .u64 (rdWord st).1) (rdWord st).2 p w) := by
  have hmf : ∀ (fn : Fn) (first cap : Array Value) (w : World), (Instr.makeFunc fn first cap).run Tryz.prog w = .ok (.func fn first cap) w := fun _ _ _ _ => rfl
  obtain ⟨W, hW, o1, hsz, hg⟩ := One.below_box w (.pointer (some ⟨p, 0, none⟩)) 156
  have C := readW_any 140 #[.pointer (some ⟨w.heap.size, 0, none⟩)] p st (((rdWord st).1 : Int), (rdWord st).2) W (h.grown hg) (enters Tryz.func140 (by kernel_rfl) rfl) (by
    cases st with
    | none => exact Or.inl ⟨rfl, rfl⟩
    | some l =>
      refine Or.inr ⟨l, rfl, ?_⟩
      by_cases hl : 8 ≤ l.length
      · left; exact ⟨l.drop 8, by simp [rdWord, hl], by simp only [rdWord, hl, if_true]; exact WordBody_ok _ p l W o1 (h.grown hg) hl⟩
      · right; exact ⟨by simp [rdWord, hl], WordBody_miss _ p l W o1 (h.grown hg) (by omega)⟩)
  have HC := Lib.hid C; have HW := Lib.hid hW; have HG := Lib.hid hg
  obtain ⟨c0, _⟩ := o1
  clear C hW hsz hg h
  go_enter Tryz.func99, Tryz.ntmps99
  go_upto_region 1 with (fail)
  rw [HW.out]
  go_wp2_with (go_at_call 139; refine HC.out.mono ?_; rintro e w' ⟨rfl, h1, h2⟩)
  go_ret
  exact ⟨rfl, h1, Lib.grownBy_trans (grown_none HG.out) h2⟩

set_option maxHeartbeats 400000 in
theorem RNumber (p : Nat) (st : RS) (w : World) (h : IsR w p st) :
    Calls Tryz.prog 97 #[.pointer (some ⟨p, 0, none⟩)] w (Reads (.int .i64 (rdNum st).1) (rdNum st).2 p w) := by
  have C := Lib.hid (RWord p st w h)
  clear h
  go_enter Tryz.func97, Tryz.ntmps97
  go_wp2_with (go_at_call 99; refine C.out.mono ?_; rintro e w' ⟨rfl, h1, h2⟩)
  go_ret
  exact ⟨rfl, h1, h2⟩

/-- a box that a closure holds, and the Reader behind it -/
theorem RdB.conv {w : World} {v : Value} {l : List UInt8} (h : RdB w v l) : (convert 27 9 v).run Tryz.prog w = .ok (.string ⟨l.toArray⟩) w := by
  obtain ⟨ao, c, rfl, _, _, h7⟩ := h
  rcases h7 with ⟨rfl, rfl, rfl⟩ | ⟨g, o, rfl, _, hr⟩
  · exact Lib.run_convert_nil_bytes w _ _ 5 0 Tryz.underlying27 Tryz.underlying5 Tryz.underlying9
  · refine run_convert_bytes_back w _ _ 5 ⟨g, o, none⟩ c l Tryz.underlying27 Tryz.underlying5 Tryz.underlying9 (fun j hj => ?_)
    rw [addr_add]; exact hr j _ (byteCells_get l j hj)

set_option maxHeartbeats 400000 in
theorem TextBody_ok (m p : Nat) (l : List UInt8) (w : World) (hm : One w m (.pointer (some ⟨p, 0, none⟩))) (hne : m ≠ p) (h : IsR w p (some l)) (hl : 2 ≤ l.length) (h4 : ofBe (l.take 2) ≤ 4096) (h5 : ofBe (l.take 2) ≤ (l.drop 2).length) :
    DoOk 133 #[.pointer (some ⟨m, 0, none⟩)] w (.string ⟨((l.drop 2).take (ofBe (l.take 2))).toArray⟩) p ((l.drop 2).drop (ofBe (l.take 2))) := by
  intro w1 hg
  have hm1 := hm.grown hg (by simp)
  obtain ⟨c0, _⟩ := id hm1
  have C := Lib.hid (word_yes p l 2 w1 (h.grown hg) hl (by omega) (by omega))
  have Hm := Lib.hid hm1
  have hwr : wrap64 (ofBe (l.take 2) : Nat) = (ofBe (l.take 2) : Nat) := IntWalk.wrap64_in _ ⟨by omega, by omega⟩
  generalize hn : ofBe (l.take 2) = n at *
  generalize hd : l.drop 2 = l2 at *
  clear hn hd hm hm1 h hg hl
  go_enter Tryz.func133, Tryz.ntmps133
  go_wp2_with fail
  refine C.out.mono ?_
  rintro e w2 ⟨rfl, h1, h2⟩
  obtain ⟨c1, _⟩ := Hm.out.grown h2 (by simp; exact hne)
  have D := Lib.hid (take_yes p l2 n w2 h1 h5)
  have H2 := Lib.hid h2
  have d4 : decide ((n : Int) ≤ 4096) = true := by simp; omega
  clear h1 h2 c0 C
  go_wp2_with (go_at_call 135; refine (rmust_yes _ _).mono ?_; rintro e w' ⟨rfl, rfl⟩)
  refine D.out.mono ?_
  rintro e w3 ⟨v, rfl, k1, k2, k3⟩
  have hconv := k1.conv
  have K2 := Lib.hid k2; have K3 := Lib.hid k3; clear k1 k2 k3 c1 d4
  go_wp2_with fail
  go_ret
  exact ⟨rfl, Lib.grownBy_trans H2.out K3.out, K2.out⟩

set_option maxHeartbeats 400000 in
theorem TextBody_miss (m p : Nat) (l : List UInt8) (w : World) (hm : One w m (.pointer (some ⟨p, 0, none⟩))) (hne : m ≠ p) (h : IsR w p (some l)) (hl : ¬ (2 ≤ l.length ∧ ofBe (l.take 2) ≤ 4096 ∧ ofBe (l.take 2) ≤ (l.drop 2).length)) :
    DoMiss 133 #[.pointer (some ⟨m, 0, none⟩)] w p := by
  intro w1 hg
  have hm1 := hm.grown hg (by simp)
  obtain ⟨c0, _⟩ := id hm1
  have H := Lib.hid (h.grown hg)
  by_cases h2 : 2 ≤ l.length
  · have C := Lib.hid (word_yes p l 2 w1 (h.grown hg) h2 (by omega) (by omega))
    have Hm := Lib.hid hm1
    have hlt : ofBe (l.take 2) < 65536 := by have := ofBe_lt (l.take 2); rw [List.length_take, Nat.min_eq_left h2] at this; simpa using this
    have hwr : wrap64 (ofBe (l.take 2) : Nat) = (ofBe (l.take 2) : Nat) := IntWalk.wrap64_in _ ⟨by omega, by omega⟩
    have hor : 4096 < ofBe (l.take 2) ∨ (ofBe (l.take 2) ≤ 4096 ∧ (l.drop 2).length < ofBe (l.take 2)) := by omega
    generalize hn : ofBe (l.take 2) = n at *
    generalize hd : l.drop 2 = l2 at *
    clear hn hd hm hm1 h hg hl h2
    rcases hor with h4 | ⟨h4, h5⟩
    · go_enter Tryz.func133, Tryz.ntmps133
      go_wp2_with fail
      refine C.out.mono ?_
      rintro e w2 ⟨rfl, h1, h2⟩
      obtain ⟨c1, _⟩ := Hm.out.grown h2 (by simp; exact hne)
      have H1 := Lib.hid h1; have H2 := Lib.hid h2
      have d4 : decide ((n : Int) ≤ 4096) = false := by simp; omega
      clear h1 h2 c0 C
      go_wp2_with (go_at_call 135; refine (rmust_no _ _).mono ?_; rintro e w' ⟨rfl, rfl⟩)
      exact ⟨rfl, rfl, H2.out, l2, H1.out⟩
    · go_enter Tryz.func133, Tryz.ntmps133
      go_wp2_with fail
      refine C.out.mono ?_
      rintro e w2 ⟨rfl, h1, h2⟩
      obtain ⟨c1, _⟩ := Hm.out.grown h2 (by simp; exact hne)
      have D := Lib.hid (take_no p l2 n w2 h1 h5)
      have H1 := Lib.hid h1; have H2 := Lib.hid h2
      have d4 : decide ((n : Int) ≤ 4096) = true := by simp; omega
      clear h1 h2 c0 C
      go_wp2_with (go_at_call 135; refine (rmust_yes _ _).mono ?_; rintro e w' ⟨rfl, rfl⟩)
      refine D.out.mono ?_
      rintro e w3 ⟨rfl, rfl⟩
      exact ⟨rfl, rfl, H2.out, l2, H1.out⟩
  · have C := Lib.hid (word_no p l 2 w1 (h.grown hg) (by omega))
    clear hm h hg hl hm1
    go_enter Tryz.func133, Tryz.ntmps133
    go_wp2_with (go_at_call 134; refine C.out.mono ?_; rintro e w' ⟨rfl, rfl⟩)
    exact ⟨rfl, rfl, World.grownBy.refl _ _, l, H.out⟩

set_option maxHeartbeats 400000 in
theorem RText (p : Nat) (st : RS) (w : World) (h : IsR w p st) :
    Calls Tryz.prog 96 #[.pointer (some ⟨p, 0, none⟩)] w (Reads (.string ⟨(rdText st).1.toArray⟩) (rdText st).2 p w) := by
  have hmf : ∀ (fn : Fn) (first cap : Array Value) (w : World), (Instr.makeFunc fn first cap).run Tryz.prog w = .ok (.func fn first cap) w := fun _ _ _ _ => rfl
  obtain ⟨W, hW, o1, hsz, hg⟩ := One.below_box w (.pointer (some ⟨p, 0, none⟩)) 156
  have hlt := h.lt
  have C := readS_any 133 #[.pointer (some ⟨w.heap.size, 0, none⟩)] p st (rdText st) W (h.grown hg) (enters Tryz.func133 (by kernel_rfl) rfl) (by
    cases st with
    | none => exact Or.inl ⟨rfl, rfl⟩
    | some l =>
      refine Or.inr ⟨l, rfl, ?_⟩
      by_cases hl : 2 ≤ l.length ∧ ofBe (l.take 2) ≤ 4096 ∧ ofBe (l.take 2) ≤ (l.drop 2).length
      · left; exact ⟨(l.drop 2).drop (ofBe (l.take 2)), by simp only [rdText, if_pos hl], by simp only [rdText, if_pos hl]; exact TextBody_ok _ p l W o1 (by omega) (h.grown hg) hl.1 hl.2.1 hl.2.2⟩
      · right; exact ⟨by simp only [rdText, if_neg hl], TextBody_miss _ p l W o1 (by omega) (h.grown hg) hl⟩)
  have HC := Lib.hid C; have HW := Lib.hid hW; have HG := Lib.hid hg
  obtain ⟨c0, _⟩ := o1
  clear C hW hsz hg h hlt
  go_enter Tryz.func96, Tryz.ntmps96
  go_upto_region 1 with (fail)
  rw [HW.out]
  go_wp2_with (go_at_call 132; refine HC.out.mono ?_; rintro e w' ⟨rfl, h1, h2⟩)
  go_ret
  exact ⟨rfl, h1, Lib.grownBy_trans (grown_none HG.out) h2⟩

/-- what End looks at -/
def IsRe (w : World) (p : Nat) (st : RS) : Prop := match st with
  | none => w.cell? ⟨p, 1, none⟩ = some (.bool true)
  | some l => w.cell? ⟨p, 1, none⟩ = some (.bool false) ∧ ∃ ao c, w.cell? ⟨p, 0, none⟩ = some (.slice ao l.length c) ∧ l.length ≤ c ∧ c ≤ maxLen
theorem IsR.e {w : World} {p : Nat} {st : RS} (h : IsR w p st) : IsRe w p st := by
  obtain ⟨_, _, h⟩ := h
  cases st with
  | none => exact h.2
  | some l => obtain ⟨h1, ao, c, h2, h3, h4, _⟩ := h; exact ⟨h1, ao, c, h2, h3, h4⟩
theorem IsRe.grown {w w' : World} {p : Nat} {st : RS} {row : Option Nat} (h : IsRe w p st) (hg : w.grownBy w' row) (hne : some p ≠ row) : IsRe w' p st := by
  cases st with
  | none => exact hg.cell (a := ⟨p, 1, none⟩) h hne
  | some l => obtain ⟨h1, ao, c, h2, h3, h4⟩ := h; exact ⟨hg.cell (a := ⟨p, 1, none⟩) h1 hne, ao, c, hg.cell (a := ⟨p, 0, none⟩) h2 hne, h3, h4⟩

set_option maxHeartbeats 400000 in
theorem REnd (p : Nat) (st : RS) (w : World) (h : IsRe w p st) :
    Calls Tryz.prog 131 #[.pointer (some ⟨p, 0, none⟩)] w fun e w' => e = .returned (.int .i64 (rdEnd st)) ∧ w = w' := by
  cases st with
  | none =>
    have c1 : w.cell? ⟨p, 1, none⟩ = some (.bool true) := h
    clear h
    go_enter Tryz.func131, Tryz.ntmps131
    go_wp2
    go_ret
    exact ⟨rfl, rfl⟩
  | some l =>
    obtain ⟨c1, ao, c, c0, h5, h6⟩ := h
    unfold maxLen at h6
    cases l with
    | nil =>
      simp only [List.length_nil] at c0
      go_enter Tryz.func131, Tryz.ntmps131
      go_wp2
      go_ret
      exact ⟨rfl, rfl⟩
    | cons x l =>
      obtain ⟨n, hn⟩ : ∃ n, (x :: l).length = n := ⟨_, rfl⟩
      have hp : 0 < n := by rw [← hn]; simp
      rw [hn] at c0 h5
      clear hn
      go_enter Tryz.func131, Tryz.ntmps131
      go_wp2
      go_ret
      exact ⟨rfl, rfl⟩

theorem Clone_nil (n c : Nat) (w : World) : Calls Tryz.prog 55 #[.slice none n c] w fun e w' => e = .returned (.slice none 0 0) ∧ w = w' :=
  (Tryz.bytes_Clone_nil n c w).mono fun _ _ h => ⟨h.1, h.2.symm⟩

set_option maxHeartbeats 400000 in
theorem NewReader_any (v : Value) (l : List UInt8) (w : World) (hv : RdB w v l) (hl : l.length ≤ 100000000000) :
    Calls Tryz.prog 130 #[v] w fun e w' => ∃ p, e = .returned (.pointer (some ⟨p, 0, none⟩)) ∧ IsR w' p (some l) ∧ w.heap.size ≤ p ∧ Below w.heap.size w w' := by
  obtain ⟨ao, c, rfl, h5, h6, h7⟩ := hv
  rcases h7 with ⟨rfl, rfl, rfl⟩ | ⟨g, o, rfl, hg, hr⟩
  · go_enter Tryz.func130, Tryz.ntmps130
    go_wp2_with (go_at_call 55; refine (Clone_nil _ _ _).mono ?_; rintro e w' ⟨rfl, rfl⟩)
    go_ret
    have hb := Blk.new w [.slice none 0 0, .bool false] 200
    exact ⟨_, rfl, ⟨hb.frozen 0, hb.frozen 1, hb.row 1 _ rfl, none, 0, hb.row 0 _ rfl, by simp, by unfold maxLen; omega, Or.inl ⟨rfl, rfl, rfl⟩⟩, Nat.le_refl _, below_box w _⟩
  · have C : Calls Tryz.prog 55 #[.slice (some ⟨g, o, none⟩) l.length c] w fun e w' => ∃ v, e = .returned v ∧ OwnB w.heap.size v l w' ∧ v ≠ .slice none 0 0 ∧ Below w.heap.size w w' := by
      refine (Tryz.bytes_Clone_at ⟨g, o, none⟩ l.length c (l.map fun x => (x.toNat : Int)) w (by simp) (by omega) ?_).mono ?_
      · intro i hi
        rw [addr_add, hr i _ (byteCells_get l i hi)]
        simp [List.getD, List.getElem?_eq_getElem hi]
      · rintro e w' ⟨v, rfl, h1, h2, h3⟩
        refine ⟨v, rfl, ?_, h2, h3⟩
        unfold OwnB Lib.byteCells
        rw [List.map_map] at h1
        exact h1
    have HC := Lib.hid C
    clear C h5 h6 hg hr
    go_enter Tryz.func130, Tryz.ntmps130
    go_wp2_with fail
    refine HC.out.mono ?_
    rintro e w1 ⟨v, rfl, h1, h2, h3⟩
    obtain ⟨h1, ⟨e, _⟩ | ⟨g2, cap, cur, rfl, hg2, hblk, hle, hcm, hcs, htk⟩⟩ := h1
    · exact absurd e h2
    have hrow : RowAt w1 g2 0 (Lib.byteCells l) := by
      intro j v hj
      rw [Nat.zero_add, Lib.cell_of_heap hblk, ← Array.getElem?_toList]
      have hlt : j < l.length := by have := (List.getElem?_eq_some_iff.1 hj).1; rwa [Lib.byteCells_length] at this
      rw [← htk, List.getElem?_take_of_lt (by omega)] at hj
      exact hj
    have hlt2 := Lib.lt_of_heap hblk
    have Hrow := Lib.hid hrow; have H3 := Lib.hid h3
    clear h1 h2 h3 hblk hrow hcs htk
    go_wp2_with fail
    go_ret
    have hb := Blk.new w1 [.slice (some ⟨g2, 0, none⟩) l.length cap, .bool false] 200
    exact ⟨_, rfl, ⟨hb.frozen 0, hb.frozen 1, hb.row 1 _ rfl, _, cap, hb.row 0 _ rfl, hle, hcm, Or.inr ⟨g2, 0, rfl, hlt2, Hrow.out.grown (World.grownBy_alloc w1 _ none) (by simp)⟩⟩, H3.out.size, H3.out.trans ((below_box w1 _).mono H3.out.size)⟩

end Go.Proofs.YtcbkehnlgpcelaaGreatDoor
