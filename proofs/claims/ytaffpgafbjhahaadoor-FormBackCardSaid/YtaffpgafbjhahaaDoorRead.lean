/- Walks: wire.Reader. -/
import Derived.Test.YtaffpgafbjhahaaDoorForms
import Derived.Lib.BufferOwn
namespace Go.Proofs.YtaffpgafbjhahaaDoor
open Go.RowKit
set_option maxRecDepth 100000

def missingP : List PanicEntry := [{ v := .iface 192 (.agg #[]), recovered := false }]

/-- a slice of bytes that reads as l -/
def RdB (w : World) (v : Value) (l : List UInt8) : Prop :=
  ∃ ao c, v = .slice ao l.length c ∧ l.length ≤ c ∧ c ≤ maxLen ∧ ((ao = none ∧ l = [] ∧ c = 0) ∨ ∃ g o, ao = some ⟨g, o, none⟩ ∧ g < w.heap.size ∧ RowAt w g o (Lib.byteCells l))

/-- block p is a Reader; none: it is broken; some l: these bytes are left -/
def IsR (w : World) (p : Nat) (st : Option (List UInt8)) : Prop :=
  w.frozen? ⟨p, 0, none⟩ = false ∧ w.frozen? ⟨p, 1, none⟩ = false ∧
  match st with
  | none => (∃ ao n c, w.cell? ⟨p, 0, none⟩ = some (.slice ao n c)) ∧ w.cell? ⟨p, 1, none⟩ = some (.bool true)
  | some l => w.cell? ⟨p, 1, none⟩ = some (.bool false) ∧ ∃ ao c, w.cell? ⟨p, 0, none⟩ = some (.slice ao l.length c) ∧ l.length ≤ c ∧ c ≤ maxLen ∧
      ((ao = none ∧ l = [] ∧ c = 0) ∨ ∃ g o, ao = some ⟨g, o, none⟩ ∧ g < p ∧ RowAt w g o (Lib.byteCells l))

theorem RowAt.grown {w w' : World} {b o : Nat} {vs : List Value} {row : Option Nat} (h : RowAt w b o vs) (hg : w.grownBy w' row) (hne : some b ≠ row) : RowAt w' b o vs :=
  fun j v hj => hg.cell (a := ⟨b, o + j, none⟩) (h j v hj) hne
theorem frozen_grown {w w' : World} {row : Option Nat} (hg : w.grownBy w' row) {a : Addr} (hb : a.block < w.heap.size) (hne : some a.block ≠ row) : w'.frozen? a = w.frozen? a :=
  World.frozen?_of_block (hg.block a.block hb hne)
theorem IsR.lt {w : World} {p : Nat} {st : Option (List UInt8)} (h : IsR w p st) : p < w.heap.size := by
  obtain ⟨_, _, h⟩ := h
  cases st with
  | none => exact World.block_lt_of_cell? w ⟨p, 1, none⟩ h.2
  | some l => exact World.block_lt_of_cell? w ⟨p, 1, none⟩ h.1
theorem IsR.grown {w w' : World} {p : Nat} {st : Option (List UInt8)} (h : IsR w p st) (hg : w.grownBy w' none) : IsR w' p st := by
  have hlt := h.lt
  obtain ⟨h1, h2, h⟩ := h
  refine ⟨(frozen_grown hg hlt (by simp)).trans h1, (frozen_grown hg hlt (by simp)).trans h2, ?_⟩
  cases st with
  | none => obtain ⟨⟨ao, n, c, h3⟩, h4⟩ := h; exact ⟨⟨ao, n, c, hg.cell h3 (by simp)⟩, hg.cell h4 (by simp)⟩
  | some l =>
    obtain ⟨h3, ao, c, h4, h5, h6, h7⟩ := h
    refine ⟨hg.cell h3 (by simp), ao, c, hg.cell h4 (by simp), h5, h6, ?_⟩
    rcases h7 with h7 | ⟨g, o, e, hp, hr⟩
    · exact Or.inl h7
    · exact Or.inr ⟨g, o, e, hp, hr.grown hg (by simp)⟩

set_option maxHeartbeats 400000 in
theorem rmust_yes (r : Value) (w : World) : Calls Tryd.prog 119 #[r, .bool true] w fun e w' => e = .returned (.tuple #[]) ∧ w = w' := by
  go_enter Tryd.func119, Tryd.ntmps119
  go_wp2
  go_end0
  exact ⟨rfl, rfl⟩
set_option maxHeartbeats 400000 in
theorem rmust_no (r : Value) (w : World) : Calls Tryd.prog 119 #[r, .bool false] w fun e w' => e = .panicked missingP ∧ w = w' := by
  go_enter Tryd.func119, Tryd.ntmps119
  go_wp2
  exact ⟨rfl, rfl, rfl⟩

set_option maxHeartbeats 400000 in
theorem take_no (p : Nat) (l : List UInt8) (n : Nat) (w : World) (h : IsR w p (some l)) (hn : l.length < n) :
    Calls Tryd.prog 120 #[.pointer (some ⟨p, 0, none⟩), .int .i64 n] w fun e w' => e = .panicked missingP ∧ w = w' := by
  obtain ⟨_, _, _, ao, c, h4, h5, h6, _⟩ := h
  have d : decide (n ≤ l.length) = false := by simp; omega
  unfold maxLen at h6
  go_enter Tryd.func120, Tryd.ntmps120
  go_wp2_with (go_at_call 119; refine (rmust_no _ _).mono ?_; rintro e w' ⟨rfl, rfl⟩)
  exact ⟨rfl, rfl, rfl⟩

theorem RowAt.take {w : World} {b o : Nat} {l : List UInt8} (h : RowAt w b o (Lib.byteCells l)) (n : Nat) : RowAt w b o (Lib.byteCells (l.take n)) := by
  intro j v hj
  unfold Lib.byteCells at hj
  rw [List.map_take] at hj
  have hlt : j < ((l.map fun b => Value.int .u8 b.toNat).take n).length := (List.getElem?_eq_some_iff.1 hj).1
  rw [List.length_take] at hlt
  rw [List.getElem?_take_of_lt (by omega)] at hj
  exact h j v hj
theorem RowAt.drop {w : World} {b o : Nat} {l : List UInt8} (h : RowAt w b o (Lib.byteCells l)) (n : Nat) : RowAt w b (o + n) (Lib.byteCells (l.drop n)) := by
  intro j v hj
  unfold Lib.byteCells at hj
  rw [List.map_drop, List.getElem?_drop] at hj
  rw [Nat.add_assoc]
  exact h (n + j) v hj
theorem RowAt.other {w : World} {b o p i : Nat} {vs : List Value} (h : RowAt w b o vs) (hne : b ≠ p) (x : Value) : RowAt (w.setCell ⟨p, i, none⟩ x) b o vs :=
  h.grown (Lib.grownBy_setCell w p i x) (by simp; exact hne)
theorem addr_add (g o n : Nat) : (⟨g, o, none⟩ : Addr).add n = ⟨g, o + n, none⟩ := by unfold Addr.add; split <;> simp_all

theorem take_end {p : Nat} {l : List UInt8} {n c : Nat} {ao ao' : Option Addr} {w : World} (h : IsR w p (some l)) (hn : n ≤ l.length) (h4 : w.cell? ⟨p, 0, none⟩ = some (.slice ao l.length c)) (h5 : l.length ≤ c) (h6 : c ≤ 2 ^ 63 - 1)
    (h7 : (ao = none ∧ l = [] ∧ c = 0) ∨ ∃ g o, ao = some ⟨g, o, none⟩ ∧ g < p ∧ RowAt w g o (Lib.byteCells l)) (ha : (ao' = ao ∧ c = n) ∨ (ao' = ao.map (·.add n))) :
    RdB (w.setCell ⟨p, 0, none⟩ (.slice ao' (l.length - n) (c - n))) (.slice ao n c) (l.take n) ∧ IsR (w.setCell ⟨p, 0, none⟩ (.slice ao' (l.length - n) (c - n))) p (some (l.drop n)) ∧ w.grownBy (w.setCell ⟨p, 0, none⟩ (.slice ao' (l.length - n) (c - n))) (some p) := by
  have hlt := h.lt
  obtain ⟨f0, f1, h3, _⟩ := h
  have hs : (w.setCell ⟨p, 0, none⟩ (.slice ao' (l.length - n) (c - n))).heap.size = w.heap.size := by simp [World.setCell]
  have et : (l.take n).length = n := by rw [List.length_take]; omega
  refine ⟨?_, ⟨by simpa using f0, by simpa using f1, (World.cell?_setCell_other _ _ _ _ (by simp)).trans h3, ao', c - n, ?_, ?_, ?_, ?_⟩, Lib.grownBy_setCell w p 0 _⟩
  · refine ⟨ao, c, by rw [et], by omega, by unfold maxLen; omega, ?_⟩
    rcases h7 with ⟨e1, e2, e3⟩ | ⟨g, o, e1, e2, e4⟩
    · left; subst e2; exact ⟨e1, by simp, e3⟩
    · right; exact ⟨g, o, e1, by omega, (e4.take n).other (by omega) _⟩
  · rw [World.cell?_setCell_same' _ _ _ (by rw [h4]; rfl), List.length_drop]
  · rw [List.length_drop]; omega
  · unfold maxLen; omega
  · rcases h7 with ⟨e1, e2, e3⟩ | ⟨g, o, e1, e2, e4⟩
    · left; subst e1 e2 e3
      refine ⟨?_, by simp, by omega⟩
      rcases ha with ⟨ha, _⟩ | ha
      · exact ha
      · simpa using ha
    · right; subst e1
      rcases ha with ⟨ha, hc⟩ | ha
      · refine ⟨g, o, ha, e2, ?_⟩
        have : l.drop n = [] := List.drop_eq_nil_of_le (by omega)
        rw [this]; intro j v hj; simp [Lib.byteCells] at hj
      · refine ⟨g, o + n, by rw [ha]; simp [addr_add], e2, (e4.drop n).other (by omega) _⟩

set_option maxHeartbeats 400000 in
theorem take_yes (p : Nat) (l : List UInt8) (n : Nat) (w : World) (h : IsR w p (some l)) (hn : n ≤ l.length) :
    Calls Tryd.prog 120 #[.pointer (some ⟨p, 0, none⟩), .int .i64 n] w fun e w' => ∃ v, e = .returned v ∧ RdB w' v (l.take n) ∧ IsR w' p (some (l.drop n)) ∧ w.grownBy w' (some p) := by
  have Hh := Lib.hid h
  obtain ⟨f0, _, _, ao, c, h4, h5, h6, h7⟩ := h
  have d : decide (n ≤ l.length) = true := by simp; omega
  have H7 := Lib.hid h7
  unfold maxLen at h6
  clear h7
  go_enter Tryd.func120, Tryd.ntmps120
  go_wp2_with (go_at_call 119; refine (rmust_yes _ _).mono ?_; rintro e w' ⟨rfl, rfl⟩)
  · have hc : c = n := by assumption
    go_ret
    have := take_end (ao' := ao) Hh.out hn h4 h5 h6 H7.out (Or.inl ⟨rfl, hc⟩)
    subst hc
    rw [Nat.sub_self] at this
    exact ⟨_, rfl, this⟩
  · go_ret
    exact ⟨_, rfl, take_end Hh.out hn h4 h5 h6 H7.out (Or.inr rfl)⟩

/-- bytes as a number, the highest first -/
def ofBe (l : List UInt8) : Nat := l.foldl (fun n c => n * 256 + c.toNat) 0
theorem ofBe_snoc (l : List UInt8) (c : UInt8) : ofBe (l ++ [c]) = ofBe l * 256 + c.toNat := by simp [ofBe]
theorem ofBe_lt (l : List UInt8) : ofBe l < 256 ^ l.length := by
  have key : ∀ (l : List UInt8) (n : Nat), l.foldl (fun n c => n * 256 + c.toNat) n < (n + 1) * 256 ^ l.length := by
    intro l
    induction l with
    | nil => intro n; simp
    | cons c l ih =>
      intro n
      have h1 := ih (n * 256 + c.toNat)
      have h2 : c.toNat < 256 := c.toNat_lt
      simp only [List.foldl_cons, List.length_cons, Nat.pow_succ]
      refine Nat.lt_of_lt_of_le h1 ?_
      rw [Nat.mul_comm (256 ^ l.length) 256, ← Nat.mul_assoc]
      exact Nat.mul_le_mul_right _ (by omega)
  have := key l 0
  simpa [ofBe] using this

theorem or_byte (a : Nat) (u : UInt8) (ha : a < 256 ^ 7) : bits .or .u64 (IntKind.u64.wrap ((a : Int) * 256)) (IntKind.u64.wrap (u.toNat : Int)) = ((a * 256 + u.toNat : Nat) : Int) := by
  have hu : u.toNat < 256 := u.toNat_lt
  have ha' : a < 72057594037927936 := by simpa using ha
  rw [IntKind.wrap_u64, IntKind.wrap_u64, Int.emod_eq_of_lt (by omega) (by omega), Int.emod_eq_of_lt (by omega) (by omega)]
  rw [bits_join .u64 64 (by decide) (fun n h0 h1 => by rw [IntKind.wrap_u64]; exact Int.emod_eq_of_lt h0 (by simpa using h1)) 8 _ _ (by omega) (by omega) (by omega) (by omega) (by omega) (by omega)]
  omega
theorem pow_step (a k : Nat) (u : UInt8) (ha : a < 256 ^ k) : a * 256 + u.toNat < 256 ^ (k + 1) := by
  have hu : u.toNat < 256 := u.toNat_lt
  rw [Nat.pow_succ]; omega

set_option maxHeartbeats 400000 in
theorem word_no (p : Nat) (l : List UInt8) (n : Nat) (w : World) (h : IsR w p (some l)) (hn : l.length < n) :
    Calls Tryd.prog 118 #[.pointer (some ⟨p, 0, none⟩), .int .i64 n] w fun e w' => e = .panicked missingP ∧ w = w' := by
  have C := Lib.hid (take_no p l n w h hn)
  clear h hn
  go_enter Tryd.func118, Tryd.ntmps118
  go_wp2_with (go_at_call 120; refine C.out.mono ?_; rintro e w' ⟨rfl, rfl⟩)
  exact ⟨rfl, rfl, rfl⟩

set_option maxHeartbeats 400000 in
theorem word_yes (p : Nat) (l : List UInt8) (n : Nat) (w : World) (h : IsR w p (some l)) (hn : n ≤ l.length) (h8 : n ≤ 8) (h0 : 0 < n) :
    Calls Tryd.prog 118 #[.pointer (some ⟨p, 0, none⟩), .int .i64 n] w fun e w' => e = .returned (.int .u64 (ofBe (l.take n) : Nat)) ∧ IsR w' p (some (l.drop n)) ∧ w.grownBy w' (some p) := by
  have C := Lib.hid (take_yes p l n w h hn)
  have Hn := Lib.hid hn
  clear h hn
  go_enter Tryd.func118, Tryd.ntmps118
  go_wp2_with fail
  refine C.out.mono ?_
  rintro e w1 ⟨v, rfl, hr, h2, h3⟩
  have H2 := Lib.hid h2; have H3 := Lib.hid h3
  obtain ⟨ao, c, rfl, _, hc, h7⟩ := hr
  rcases h7 with ⟨_, h7, _⟩ | ⟨g, o, rfl, hg, hrow⟩
  · have := Hn.out; rw [← List.length_eq_zero_iff, List.length_take] at h7; omega
  have hlen : (l.take n).length = n := by rw [List.length_take]; have := Hn.out; omega
  generalize hL : l.take n = L at hlen hrow
  have Hrow := Lib.hid hrow; have HL := Lib.hid hL; have Hlen := Lib.hid hlen
  rw [hlen]
  clear h2 h3 hrow hL hlen C hc
  go_wp2_with fail
  go_loop [5, 12] (fun x i => ∃ k : Nat, k ≤ n ∧ i = .int .i64 k ∧ ∃ a : Nat, x = .int .u64 a ∧ a < 256 ^ k ∧ a = ofBe (L.take k)) (fun _ i => n - (intOf i).toNat)
  case atStart => exact ⟨0, Nat.zero_le _, rfl, 0, rfl, by simp, rfl⟩
  case round =>
    obtain ⟨k, hk, rfl, a, rfl, ha, hx⟩ := hrel
    have Ha := Lib.hid ha; have Hx := Lib.hid hx; clear ha hx
    by_cases hlt : k < n
    · have hk2 : k < L.length := by rw [Hlen.out]; exact hlt
      have hcell := Hrow.out k _ (byteCells_get _ k hk2)
      obtain ⟨u, hu⟩ : ∃ u, u = L[k] := ⟨_, rfl⟩
      rw [← hu] at hcell
      have hs : ofBe (L.take (k + 1)) = ofBe (L.take k) * 256 + u.toNat := by rw [List.take_succ_eq_append_getElem hk2, ofBe_snoc, ← hu]
      have Hs := Lib.hid hs
      clear hk2 hu hs
      go_wp2
      have h7 : a < 256 ^ 7 := Nat.lt_of_lt_of_le Ha.out (Nat.pow_le_pow_right (by decide) (by omega))
      refine ⟨⟨k + 1, by omega, by go_num, a * 256 + u.toNat, by rw [or_byte a u h7], pow_step a k u Ha.out, by rw [Hs.out, Hx.out]⟩, by simp [intOf]; omega⟩
    · go_wp2
      go_ret
      have hkn : k = n := by omega
      subst hkn
      have e : ofBe (l.take k) = a := by
        rw [HL.out, Hx.out, List.take_of_length_le (by rw [Hlen.out]; omega)]
      exact ⟨by rw [e]; rfl, H2.out, H3.out⟩

end Go.Proofs.YtaffpgafbjhahaaDoor
