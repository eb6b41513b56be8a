/- Walks: wire.Reader. Walks: wire.read at uint64, int and string. Walks: wire.Reader's methods: Word, Number, Text, Count, End, NewReader. -/
import Derived.Test.YtlahdaanfhedoaaDoorForms
import Derived.Lib.BufferOwn
import Derived.Recover
import Derived.Deep.Cut
import Derived.Deep.CutRange
import Derived.Laws.IdiomStrings
namespace Go.Proofs.YtlahdaanfhedoaaDoor
open Go.RowKit
set_option maxRecDepth 100000

/-- a slice of bytes that reads as l -/
def RdB (w : World) (v : Value) (l : List UInt8) : Prop :=
  ∃ ao c, v = .slice ao l.length c ∧ l.length ≤ c ∧ c ≤ maxLen ∧ ((ao = none ∧ l = [] ∧ c = 0) ∨ ∃ g o, ao = some ⟨g, o, none⟩ ∧ g < w.heap.size ∧ RowAt w g o (Lib.byteCells l))

/-- block p is a Reader; none: it is broken; some l: these bytes are left -/
def IsR (w : World) (p : Nat) (st : Option (List UInt8)) : Prop :=
  w.frozen? ⟨p, 0, none⟩ = false ∧ w.frozen? ⟨p, 1, none⟩ = false ∧
  match st with
  | none => (∃ ao n c, w.cell? ⟨p, 0, none⟩ = some (.slice ao n c)) ∧ w.cell? ⟨p, 1, none⟩ = some (.bool true)
  | some l => w.cell? ⟨p, 1, none⟩ = some (.bool false) ∧ ∃ ao c, w.cell? ⟨p, 0, none⟩ = some (.slice ao l.length c) ∧ l.length ≤ c ∧ c ≤ maxLen ∧
      ((ao = none ∧ l = [] ∧ c = 0) ∨ ∃ g o, ao = some ⟨g, o, none⟩ ∧ g < p ∧ RowAt w g o (Lib.byteCells l))

theorem RowAt.grown {w w' : World} {b o : Nat} {vs : List Value} {row : Option Nat} (h : RowAt w b o vs) (hg : w.grownBy w' row) (hne : some b ≠ row) : RowAt w' b o vs :=
  fun j v hj => hg.cell (a := ⟨b, o + j, none⟩) (h j v hj) hne
theorem frozen_grown {w w' : World} {row : Option Nat} (hg : w.grownBy w' row) {a : Addr} (hb : a.block < w.heap.size) (hne : some a.block ≠ row) : w'.frozen? a = w.frozen? a :=
  World.frozen?_of_block (hg.block a.block hb hne)
theorem IsR.lt {w : World} {p : Nat} {st : Option (List UInt8)} (h : IsR w p st) : p < w.heap.size := by
  obtain ⟨_, _, h⟩ := h
  cases st with
  | none => exact World.block_lt_of_cell? w ⟨p, 1, none⟩ h.2
  | some l => exact World.block_lt_of_cell? w ⟨p, 1, none⟩ h.1
theorem IsR.grown {w w' : World} {p : Nat} {st : Option (List UInt8)} (h : IsR w p st) (hg : w.grownBy w' none) : IsR w' p st := by
  have hlt := h.lt
  obtain ⟨h1, h2, h⟩ := h
  refine ⟨(frozen_grown hg hlt (by simp)).trans h1, (frozen_grown hg hlt (by simp)).trans h2, ?_⟩
  cases st with
  | none => obtain ⟨⟨ao, n, c, h3⟩, h4⟩ := h; exact ⟨⟨ao, n, c, hg.cell h3 (by simp)⟩, hg.cell h4 (by simp)⟩
  | some l =>
    obtain ⟨h3, ao, c, h4, h5, h6, h7⟩ := h
    refine ⟨hg.cell h3 (by simp), ao, c, hg.cell h4 (by simp), h5, h6, ?_⟩
    rcases h7 with h7 | ⟨g, o, e, hp, hr⟩
    · exact Or.inl h7
    · exact Or.inr ⟨g, o, e, hp, hr.grown hg (by simp)⟩

theorem RowAt.take {w : World} {b o : Nat} {l : List UInt8} (h : RowAt w b o (Lib.byteCells l)) (n : Nat) : RowAt w b o (Lib.byteCells (l.take n)) := by
  intro j v hj
  unfold Lib.byteCells at hj
  rw [List.map_take] at hj
  have hlt : j < ((l.map fun b => Value.int .u8 b.toNat).take n).length := (List.getElem?_eq_some_iff.1 hj).1
  rw [List.length_take] at hlt
  rw [List.getElem?_take_of_lt (by omega)] at hj
  exact h j v hj
theorem RowAt.drop {w : World} {b o : Nat} {l : List UInt8} (h : RowAt w b o (Lib.byteCells l)) (n : Nat) : RowAt w b (o + n) (Lib.byteCells (l.drop n)) := by
  intro j v hj
  unfold Lib.byteCells at hj
  rw [List.map_drop, List.getElem?_drop] at hj
  rw [Nat.add_assoc]
  exact h (n + j) v hj
theorem RowAt.other {w : World} {b o p i : Nat} {vs : List Value} (h : RowAt w b o vs) (hne : b ≠ p) (x : Value) : RowAt (w.setCell ⟨p, i, none⟩ x) b o vs :=
  h.grown (Lib.grownBy_setCell w p i x) (by simp; exact hne)
theorem addr_add (g o n : Nat) : (⟨g, o, none⟩ : Addr).add n = ⟨g, o + n, none⟩ := by unfold Addr.add; split <;> simp_all

theorem take_end {p : Nat} {l : List UInt8} {n c : Nat} {ao ao' : Option Addr} {w : World} (h : IsR w p (some l)) (hn : n ≤ l.length) (h4 : w.cell? ⟨p, 0, none⟩ = some (.slice ao l.length c)) (h5 : l.length ≤ c) (h6 : c ≤ 2 ^ 63 - 1)
    (h7 : (ao = none ∧ l = [] ∧ c = 0) ∨ ∃ g o, ao = some ⟨g, o, none⟩ ∧ g < p ∧ RowAt w g o (Lib.byteCells l)) (ha : (ao' = ao ∧ c = n) ∨ (ao' = ao.map (·.add n))) :
    RdB (w.setCell ⟨p, 0, none⟩ (.slice ao' (l.length - n) (c - n))) (.slice ao n c) (l.take n) ∧ IsR (w.setCell ⟨p, 0, none⟩ (.slice ao' (l.length - n) (c - n))) p (some (l.drop n)) ∧ w.grownBy (w.setCell ⟨p, 0, none⟩ (.slice ao' (l.length - n) (c - n))) (some p) := by
  have hlt := h.lt
  obtain ⟨f0, f1, h3, _⟩ := h
  have hs : (w.setCell ⟨p, 0, none⟩ (.slice ao' (l.length - n) (c - n))).heap.size = w.heap.size := by simp [World.setCell]
  have et : (l.take n).length = n := by rw [List.length_take]; omega
  refine ⟨?_, ⟨by simpa using f0, by simpa using f1, (World.cell?_setCell_other _ _ _ _ (by simp)).trans h3, ao', c - n, ?_, ?_, ?_, ?_⟩, Lib.grownBy_setCell w p 0 _⟩
  · refine ⟨ao, c, by rw [et], by omega, by unfold maxLen; omega, ?_⟩
    rcases h7 with ⟨e1, e2, e3⟩ | ⟨g, o, e1, e2, e4⟩
    · left; subst e2; exact ⟨e1, by simp, e3⟩
    · right; exact ⟨g, o, e1, by omega, (e4.take n).other (by omega) _⟩
  · rw [World.cell?_setCell_same' _ _ _ (by rw [h4]; rfl), List.length_drop]
  · rw [List.length_drop]; omega
  · unfold maxLen; omega
  · rcases h7 with ⟨e1, e2, e3⟩ | ⟨g, o, e1, e2, e4⟩
    · left; subst e1 e2 e3
      refine ⟨?_, by simp, by omega⟩
      rcases ha with ⟨ha, _⟩ | ha
      · exact ha
      · simpa using ha
    · right; subst e1
      rcases ha with ⟨ha, hc⟩ | ha
      · refine ⟨g, o, ha, e2, ?_⟩
        have : l.drop n = [] := List.drop_eq_nil_of_le (by omega)
        rw [this]; intro j v hj; simp [Lib.byteCells] at hj
      · refine ⟨g, o + n, by rw [ha]; simp [addr_add], e2, (e4.drop n).other (by omega) _⟩

/-- bytes as a number, the highest first -/
def ofBe (l : List UInt8) : Nat := l.foldl (fun n c => n * 256 + c.toNat) 0
theorem ofBe_snoc (l : List UInt8) (c : UInt8) : ofBe (l ++ [c]) = ofBe l * 256 + c.toNat := by simp [ofBe]
theorem ofBe_lt (l : List UInt8) : ofBe l < 256 ^ l.length := by
  have key : ∀ (l : List UInt8) (n : Nat), l.foldl (fun n c => n * 256 + c.toNat) n < (n + 1) * 256 ^ l.length := by
    intro l
    induction l with
    | nil => intro n; simp
    | cons c l ih =>
      intro n
      have h1 := ih (n * 256 + c.toNat)
      have h2 : c.toNat < 256 := c.toNat_lt
      simp only [List.foldl_cons, List.length_cons, Nat.pow_succ]
      refine Nat.lt_of_lt_of_le h1 ?_
      rw [Nat.mul_comm (256 ^ l.length) 256, ← Nat.mul_assoc]
      exact Nat.mul_le_mul_right _ (by omega)
  have := key l 0
  simpa [ofBe] using this

theorem or_byte (a : Nat) (u : UInt8) (ha : a < 256 ^ 7) : bits .or .u64 (IntKind.u64.wrap ((a : Int) * 256)) (IntKind.u64.wrap (u.toNat : Int)) = ((a * 256 + u.toNat : Nat) : Int) := by
  have hu : u.toNat < 256 := u.toNat_lt
  have ha' : a < 72057594037927936 := by simpa using ha
  rw [IntKind.wrap_u64, IntKind.wrap_u64, Int.emod_eq_of_lt (by omega) (by omega), Int.emod_eq_of_lt (by omega) (by omega)]
  rw [bits_join .u64 64 (by decide) (fun n h0 h1 => by rw [IntKind.wrap_u64]; exact Int.emod_eq_of_lt h0 (by simpa using h1)) 8 _ _ (by omega) (by omega) (by omega) (by omega) (by omega) (by omega)]
  omega
theorem pow_step (a k : Nat) (u : UInt8) (ha : a < 256 ^ k) : a * 256 + u.toNat < 256 ^ (k + 1) := by
  have hu : u.toNat < 256 := u.toNat_lt
  rw [Nat.pow_succ]; omega

/-- a reading that goes well: it gives v, and l is left -/
def DoOk (F : FuncId) (cap : Array Value) (w : World) (v : Value) (p : Nat) (l : List UInt8) : Prop :=
  ∀ w1, w.grownBy w1 none → Calls Tryd.prog F cap w1 fun e w2 => e = .returned v ∧ w1.grownBy w2 (some p) ∧ IsR w2 p (some l)
theorem below_grown {w w' : World} (h : Below w.heap.size w w') : w.grownBy w' none := ⟨h.os, h.tape, h.output, h.size, fun k hk _ => h.block k hk⟩
theorem grown_none {w w' : World} {row : Option Nat} (h : w.grownBy w' none) : w.grownBy w' row := ⟨h.os, h.tape, h.output, h.size, fun k hk _ => h.block k hk (by simp)⟩
theorem One.grown {w w' : World} {m : Nat} {x : Value} {row : Option Nat} (h : One w m x) (hg : w.grownBy w' row) (hne : some m ≠ row) : One w' m x :=
  ⟨hg.cell h.1 hne, (frozen_grown hg (World.block_lt_of_cell? w ⟨m, 0, none⟩ h.1) hne).trans h.2⟩
theorem One.set {w : World} {m : Nat} {x : Value} (h : One w m x) (y : Value) : One (w.setCell ⟨m, 0, none⟩ y) m y :=
  ⟨World.cell?_setCell_same' _ _ _ (by rw [h.1]; rfl), by simpa using h.2⟩
theorem One.other {w : World} {m p i : Nat} {x y : Value} (h : One w m x) (hne : m ≠ p) : One (w.setCell ⟨p, i, none⟩ y) m x :=
  ⟨(World.cell?_setCell_other _ _ _ _ (by simp <;> intro e <;> exact absurd e.symm hne)).trans h.1, by simpa using h.2⟩
/-- the reader breaks -/
theorem IsR.breaks {w : World} {p : Nat} {l : List UInt8} (h : IsR w p (some l)) : IsR (w.setCell ⟨p, 1, none⟩ (.bool true)) p none := by
  obtain ⟨f0, f1, h3, ao, c, h4, _⟩ := h
  exact ⟨by simpa using f0, by simpa using f1, ⟨ao, _, c, (World.cell?_setCell_other _ _ _ _ (by simp)).trans h4⟩, World.cell?_setCell_same' _ _ _ (by rw [h3]; rfl)⟩
theorem IsR.other {w : World} {p m i : Nat} {st : Option (List UInt8)} (h : IsR w p st) (hne : p < m) (y : Value) : IsR (w.setCell ⟨m, i, none⟩ y) p st := by
  have hc : ∀ j, (w.setCell ⟨m, i, none⟩ y).cell? ⟨p, j, none⟩ = w.cell? ⟨p, j, none⟩ := fun j => World.cell?_setCell_other _ _ _ _ (by simp <;> omega)
  obtain ⟨f0, f1, h⟩ := h
  refine ⟨by simpa using f0, by simpa using f1, ?_⟩
  cases st with
  | none => obtain ⟨⟨ao, n, c, h3⟩, h4⟩ := h; exact ⟨⟨ao, n, c, (hc 0).trans h3⟩, (hc 1).trans h4⟩
  | some l =>
    obtain ⟨h3, ao, c, h4, h5, h6, h7⟩ := h
    refine ⟨(hc 1).trans h3, ao, c, (hc 0).trans h4, h5, h6, ?_⟩
    rcases h7 with h7 | ⟨g, o, e, hp, hr⟩
    · exact Or.inl h7
    · exact Or.inr ⟨g, o, e, hp, hr.other (by omega) _⟩

/-- a store into a new block -/
theorem grown_trans' {w w1 : World} {p m : Nat} {row : Option Nat} (h : w.grownBy w1 row) (hm : w.heap.size ≤ m) (y : Value) (hrow : row = none ∨ row = some p := by simp) : w.grownBy (w1.setCell ⟨m, 0, none⟩ y) (some p) := by
  refine ⟨h.os, h.tape, h.output, by have := h.size; simpa [World.setCell] using this, fun k hk hne => ?_⟩
  rw [Below.heap_setCell _ _ _ _ (by simp; omega)]
  refine h.block k hk ?_
  rcases hrow with rfl | rfl
  · simp
  · exact hne

/-- what is left to be read; none: broken -/
abbrev RS := Option (List UInt8)
def rdWord (st : RS) : Nat × RS := match st with | none => (0, none) | some l => if 8 ≤ l.length then (ofBe (l.take 8), some (l.drop 8)) else (0, none)
def rdNum (st : RS) : Int × RS := (wrap64 (rdWord st).1, (rdWord st).2)
def rdText (st : RS) : List UInt8 × RS := match st with
  | none => ([], none)
  | some l => if 2 ≤ l.length ∧ ofBe (l.take 2) ≤ 4096 ∧ ofBe (l.take 2) ≤ (l.drop 2).length then ((l.drop 2).take (ofBe (l.take 2)), some ((l.drop 2).drop (ofBe (l.take 2)))) else ([], none)
def rdCount (most : Int) (st : RS) : Int × RS := match st with
  | none => (0, none)
  | some l => if 8 ≤ l.length ∧ 0 ≤ wrap64 (ofBe (l.take 8)) ∧ wrap64 (ofBe (l.take 8)) ≤ most then (wrap64 (ofBe (l.take 8)), some (l.drop 8)) else (0, none)
def rdHash (st : RS) : List UInt8 × RS := match st with
  | none => (List.replicate 32 0, none)
  | some l => if 32 ≤ l.length then (l.take 32, some (l.drop 32)) else (List.replicate 32 0, none)
def rdEnd (st : RS) : Int := match st with | some [] => 0 | _ => 21

/-- a reading's post -/
def Reads (v : Value) (st : RS) (p : Nat) (w : World) (e : Ending) (w' : World) : Prop := e = .returned v ∧ IsR w' p st ∧ w.grownBy w' (some p)

theorem One.below_box (w : World) (x : Value) (T : TypeId) : ∃ W, w.alloc (.cells #[x] T) = W ∧ One W w.heap.size x ∧ W.heap.size = w.heap.size + 1 ∧ w.grownBy W none :=
  ⟨_, rfl, One.new w x T, by simp, World.grownBy_alloc w _ none⟩

/-- a box that a closure holds, and the Reader behind it -/
theorem RdB.conv {w : World} {v : Value} {l : List UInt8} (h : RdB w v l) : (convert 59 9 v).run Tryd.prog w = .ok (.string ⟨l.toArray⟩) w := by
  obtain ⟨ao, c, rfl, _, _, h7⟩ := h
  rcases h7 with ⟨rfl, rfl, rfl⟩ | ⟨g, o, rfl, _, hr⟩
  · exact Lib.run_convert_nil_bytes w _ _ 5 0 Tryd.underlying59 Tryd.underlying5 Tryd.underlying9
  · refine run_convert_bytes_back w _ _ 5 ⟨g, o, none⟩ c l Tryd.underlying59 Tryd.underlying5 Tryd.underlying9 (fun j hj => ?_)
    rw [addr_add]; exact hr j _ (byteCells_get l j hj)

/-- what End looks at -/
def IsRe (w : World) (p : Nat) (st : RS) : Prop := match st with
  | none => w.cell? ⟨p, 1, none⟩ = some (.bool true)
  | some l => w.cell? ⟨p, 1, none⟩ = some (.bool false) ∧ ∃ ao c, w.cell? ⟨p, 0, none⟩ = some (.slice ao l.length c) ∧ l.length ≤ c ∧ c ≤ maxLen
theorem IsR.e {w : World} {p : Nat} {st : RS} (h : IsR w p st) : IsRe w p st := by
  obtain ⟨_, _, h⟩ := h
  cases st with
  | none => exact h.2
  | some l => obtain ⟨h1, ao, c, h2, h3, h4, _⟩ := h; exact ⟨h1, ao, c, h2, h3, h4⟩
theorem IsRe.grown {w w' : World} {p : Nat} {st : RS} {row : Option Nat} (h : IsRe w p st) (hg : w.grownBy w' row) (hne : some p ≠ row) : IsRe w' p st := by
  cases st with
  | none => exact hg.cell (a := ⟨p, 1, none⟩) h hne
  | some l => obtain ⟨h1, ao, c, h2, h3, h4⟩ := h; exact ⟨hg.cell (a := ⟨p, 1, none⟩) h1 hne, ao, c, hg.cell (a := ⟨p, 0, none⟩) h2 hne, h3, h4⟩

theorem Clone_nil (n c : Nat) (w : World) : Calls Tryd.prog 70 #[.slice none n c] w fun e w' => e = .returned (.slice none 0 0) ∧ w = w' :=
  (Tryd.bytes_Clone_nil n c w).mono fun _ _ h => ⟨h.1, h.2.symm⟩

end Go.Proofs.YtlahdaanfhedoaaDoor
