/- Walks: nuncioref02.Reader. Walks: nuncioref02.Reader's Text.. Walks: nuncioref02.Reader's Hash. -/
import Derived.Test.YtlahdaanfhedoaaDoorDecPacket
import Derived.Test.YtlahdaanfhedoaaDoorReadH
import Derived.Deep.OwnRows
import Derived.Deep.QuietTactic
import Derived.BigQuiet
namespace Go.Proofs.YtlahdaanfhedoaaDoor
open Go.RowKit
set_option maxRecDepth 100000

/-- the document's taking: so many bytes, or noughts -/
def rdTake (n : Nat) (st : RS) : List UInt8 × RS := match st with
  | none => (List.replicate n 0, none)
  | some l => if n ≤ l.length then (l.take n, some (l.drop n)) else (List.replicate n 0, none)
theorem rdTake_len (n : Nat) (st : RS) : (rdTake n st).1.length = n := by
  unfold rdTake
  cases st with
  | none => simp
  | some l => dsimp only; split <;> simp <;> omega
theorem IsR.none_of {w : World} {p : Nat} {l : List UInt8} (h : IsR w p (some l)) : IsR (w.setCell ⟨p, 1, none⟩ (.bool true)) p none := h.breaks
theorem IsR.again {w : World} {p : Nat} (h : IsR w p none) : IsR (w.setCell ⟨p, 1, none⟩ (.bool true)) p none := by
  obtain ⟨f0, f1, ⟨ao, n, c, h3⟩, h4⟩ := h
  exact ⟨by simpa using f0, by simpa using f1, ⟨ao, n, c, (World.cell?_setCell_other _ _ _ _ (by simp)).trans h3⟩, World.cell?_setCell_same' _ _ _ (by rw [h4]; rfl)⟩
theorem zeros_rd (w : World) (m n : Nat) (hm : w.heap.size = m) (hn : n ≤ maxLen) : RdB (w.alloc (.cells (madeCells #[.int .u8 0] n) 5)) (.slice (some ⟨m, 0, none⟩) n n) (List.replicate n 0) := by
  subst hm
  refine ⟨some ⟨w.heap.size, 0, none⟩, n, by simp, by simp, hn, Or.inr ⟨w.heap.size, 0, rfl, by simp, fun j v hj => ?_⟩⟩
  rw [Nat.zero_add, Lib.cell_of_heap (heap_alloc_new w _), ← Array.getElem?_toList, toList_madeCells_one]
  simpa [Lib.byteCells] using hj

theorem ofBe_zeros (n : Nat) : ofBe (List.replicate n 0) = 0 := by
  induction n with
  | zero => rfl
  | succ n ih => rw [List.replicate_succ']; rw [ofBe_snoc, ih]; rfl
theorem rdTake_word (st : RS) : ofBe (rdTake 8 st).1 = (rdWord st).1 ∧ (rdTake 8 st).2 = (rdWord st).2 := by
  cases st with
  | none => exact ⟨ofBe_zeros 8, rfl⟩
  | some l =>
    by_cases hl : 8 ≤ l.length
    · simp [rdTake, rdWord, if_pos hl]
    · simp only [rdTake, rdWord, if_neg hl]; exact ⟨ofBe_zeros 8, trivial⟩

theorem add_byte (a : Nat) (u : UInt8) (ha : a < 256 ^ 7) : IntKind.u64.wrap (IntKind.u64.wrap ((a : Int) * 256) + IntKind.u64.wrap (u.toNat : Int)) = ((a * 256 + u.toNat : Nat) : Int) := by
  have hu : u.toNat < 256 := u.toNat_lt
  have ha' : a < 72057594037927936 := by simpa using ha
  rw [IntKind.wrap_u64, IntKind.wrap_u64, IntKind.wrap_u64, Int.emod_eq_of_lt (a := (a : Int) * 256) (by omega) (by omega), Int.emod_eq_of_lt (a := (u.toNat : Int)) (by omega) (by omega), Int.emod_eq_of_lt (by omega) (by omega)]
  omega

def qText (st : RS) : List UInt8 × RS :=
  if 4096 < ofBe (rdTake 2 st).1 then ([], none) else
  match (rdTake (ofBe (rdTake 2 st).1) (rdTake 2 st).2).2 with
  | none => ([], none)
  | some l => ((rdTake (ofBe (rdTake 2 st).1) (rdTake 2 st).2).1, some l)
theorem qText_eq (st : RS) : qText st = rdText st := by
  unfold qText rdText
  cases st with
  | none => rfl
  | some l =>
    by_cases h2 : 2 ≤ l.length
    · simp only [rdTake, if_pos h2]
      by_cases h4 : 4096 < ofBe (l.take 2)
      · rw [if_pos h4, if_neg (by omega)]
      · rw [if_neg h4]
        by_cases h5 : ofBe (l.take 2) ≤ (l.drop 2).length
        · rw [if_pos h5, if_pos ⟨h2, by omega, h5⟩]
        · rw [if_neg h5, if_neg (fun h => h5 h.2.2)]
    · simp only [rdTake, if_neg h2]
      rw [if_neg (show ¬ 4096 < ofBe (List.replicate 2 0) by rw [ofBe_zeros]; omega), if_neg (fun h => h2 h.1)]
theorem two_bytes {L : List UInt8} (h : L.length = 2) : ∃ a b : UInt8, L = [a, b] := by
  match L, h with
  | [a, b], _ => exact ⟨a, b, rfl⟩

/-- a text, behind its length -/
def qRest (n : Nat) (st2 : RS) : List UInt8 × RS := if 4096 < n then ([], none) else match (rdTake n st2).2 with | none => ([], none) | some l => ((rdTake n st2).1, some l)
theorem qText_rest (st : RS) : qText st = qRest (ofBe (rdTake 2 st).1) (rdTake 2 st).2 := rfl

def qCount (most : Int) (st : RS) : Int × RS := if (rdNum st).1 < 0 ∨ most < (rdNum st).1 then (0, none) else rdNum st
theorem qCount_eq (most : Int) (st : RS) (_hm : 0 ≤ most) : qCount most st = rdCount most st := by
  unfold qCount rdCount
  cases st with
  | none => simp [rdNum, rdWord, wrap64]
  | some l =>
    by_cases hl : 8 ≤ l.length
    · have e : rdNum (some l) = (wrap64 (ofBe (l.take 8)), some (l.drop 8)) := by simp [rdNum, rdWord, hl]
      rw [e]
      dsimp only
      by_cases h : 0 ≤ wrap64 (ofBe (l.take 8)) ∧ wrap64 (ofBe (l.take 8)) ≤ most
      · rw [if_neg (by omega), if_pos ⟨hl, h.1, h.2⟩]
      · rw [if_pos (by omega), if_neg (fun k => h ⟨k.2.1, k.2.2⟩)]
    · have e : rdNum (some l) = (0, none) := by simp [rdNum, rdWord, hl, wrap64]
      rw [e]
      dsimp only
      rw [if_neg (show ¬ (8 ≤ l.length ∧ 0 ≤ wrap64 (ofBe (l.take 8)) ∧ wrap64 (ofBe (l.take 8)) ≤ most) from fun k => hl k.1)]
      split <;> rfl

def part32 (L : List UInt8) (k : Nat) : List UInt8 := L.take k ++ List.replicate (32 - k) 0
theorem part32_len (L : List UInt8) (k : Nat) (h : L.length = 32) (hk : k ≤ 32) : (part32 L k).length = 32 := by simp [part32]; omega

theorem rdTake_hash (st : RS) : rdTake 32 st = rdHash st := by cases st <;> rfl
end Go.Proofs.YtlahdaanfhedoaaDoor
