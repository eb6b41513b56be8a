/- Walks: wire.read at api.Hash, and the Reader's Hash. -/
import Derived.Test.YtlahdaanfhedoaaDoorDecode
import Derived.Deep.Cut
import Derived.Deep.CutRange
import Derived.Deep.RegionHeld
import Derived.Deep.Upon
import Derived.Laws.Cover3
namespace Go.Proofs.YtlahdaanfhedoaaDoor
open Go.RowKit
set_option maxRecDepth 100000

/-- the zero hash's cells -/
def ZH : List Value := Lib.byteCells (List.replicate 32 0)
theorem ZH_info : (Tryd.prog.info? 33).map (fun i => i.zero.map (fun v => v.cells)) = some (some ZH.toArray) := by kernel_rfl
theorem ZH_length : ZH.length = 32 := by rfl
theorem sizeH (cs : List Value) (h : cs.length = 32) : (Tryd.prog.info? 33).map (·.size) = some cs.length := by rw [h]; kernel_rfl
theorem ZH_one : ∀ v ∈ ZH, v.oneCell' = true := oneCell_bytes _

theorem Blk.setOther {w : World} {g : Nat} {vs : List Value} {T : TypeId} (h : Blk w g vs T) {p i : Nat} (hne : p ≠ g) (y : Value) : Blk (w.setCell ⟨p, i, none⟩ y) g vs T :=
  (Below.heap_setCell w ⟨p, i, none⟩ y g (by simp; exact fun e => hne e.symm)).trans h

theorem heap_setCell_same {w : World} {g : Nat} {C : Array Value} {T : TypeId} {fr : Nat × Nat} (h : w.heap[g]? = some (.cells C T fr)) (i : Nat) (x : Value) :
    (w.setCell ⟨g, i, none⟩ x).heap[g]? = some (.cells (C.setIfInBounds i x) T fr) := by
  obtain ⟨hg, hgt⟩ := Array.getElem?_eq_some_iff.1 h
  simp [World.setCell, hg, hgt, Array.getElem_modify]
theorem heap_setCells_same {g : Nat} {T : TypeId} {fr : Nat × Nat} : ∀ (vs : List Value) (o : Nat) (w : World) (cs : List Value), w.heap[g]? = some (.cells cs.toArray T fr) → o + vs.length ≤ cs.length →
    (w.setCells g o vs).heap[g]? = some (.cells (cs.take o ++ vs ++ cs.drop (o + vs.length)).toArray T fr)
  | [], o, w, cs, h, _ => by simpa [World.setCells] using h
  | v :: vs, o, w, cs, h, hle => by
    rw [List.length_cons] at hle
    have h1 := heap_setCell_same h o v
    have h2 := heap_setCells_same vs (o + 1) (w.setCell ⟨g, o, none⟩ v) (cs.set o v) (by simpa using h1) (by simp; omega)
    unfold World.setCells
    rw [h2]
    congr 3
    rw [List.take_set, List.drop_set_of_lt (by omega), List.take_succ_eq_append_getElem (show o < cs.length by omega), List.length_cons]
    have e : (List.take o cs ++ [cs[o]'(by omega)]).set o v = List.take o cs ++ [v] := by
      rw [List.set_append, if_neg (by rw [List.length_take]; omega), List.length_take, Nat.min_eq_left (by omega), Nat.sub_self]; rfl
    rw [e, show o + 1 + vs.length = o + (vs.length + 1) by omega]
    simp
theorem Blk.setCells {w : World} {g : Nat} {cs vs : List Value} {T : TypeId} (h : Blk w g cs T) (hn : vs.length = cs.length) : Blk (w.setCells g 0 vs) g vs T := by
  have := heap_setCells_same vs 0 w cs h (by omega)
  rw [List.take_zero, List.nil_append, Nat.zero_add, List.drop_eq_nil_of_le (by omega), List.append_nil] at this
  exact this
theorem grown_setCells {w : World} {g o : Nat} {vs : List Value} : w.grownBy (w.setCells g o vs) (some g) := by
  have hs : ∀ (vs : List Value) (o : Nat) (w : World), (w.setCells g o vs).heap.size = w.heap.size ∧ (w.setCells g o vs).tape = w.tape := by
    intro vs
    induction vs with
    | nil => intro o w; exact ⟨rfl, rfl⟩
    | cons v vs ih =>
      intro o w
      unfold World.setCells
      obtain ⟨h1, h2⟩ := ih (o + 1) (w.setCell ⟨g, o, none⟩ v)
      exact ⟨h1.trans (by simp [World.setCell]), h2.trans rfl⟩
  exact ⟨World.os_setCells _ _ _ _, (hs vs o w).2, World.output_setCells _ _ _ _, by rw [(hs vs o w).1]; exact Nat.le_refl _, fun k hk hne => World.heap_setCells_other _ _ _ _ hk (by intro e; subst e; exact hne rfl)⟩
theorem Blk.there {w : World} {g n : Nat} {vs : List Value} {T : TypeId} (h : Blk w g vs T) (hn : vs.length = n) : w.there g 0 n := fun j hj =>
  ⟨by rw [h.row j _ (List.getElem?_eq_getElem (by omega))]; rfl, by simpa using h.frozen (0 + j)⟩
/-- what the catcher's last statement looks at -/
theorem keepRH {m p b : Nat} {Z : List Value} {w : World} (hb : b ≠ p) (hm : m ≠ p) (hm1 : m + 1 ≠ p)
    (h : w.rangeAt b 0 Z ∧ w.there (m + 1) 0 32 ∧ w.cell? ⟨m, 0, none⟩ = some (.pointer (some ⟨p, 0, none⟩)) ∧ (w.cell? ⟨p, 1, none⟩).isSome = true ∧ w.frozen? ⟨p, 1, none⟩ = false) (x : Value) :
    (w.setCell ⟨p, 1, none⟩ x).rangeAt b 0 Z ∧ (w.setCell ⟨p, 1, none⟩ x).there (m + 1) 0 32 ∧ (w.setCell ⟨p, 1, none⟩ x).cell? ⟨m, 0, none⟩ = some (.pointer (some ⟨p, 0, none⟩)) ∧ ((w.setCell ⟨p, 1, none⟩ x).cell? ⟨p, 1, none⟩).isSome = true ∧ (w.setCell ⟨p, 1, none⟩ x).frozen? ⟨p, 1, none⟩ = false := by
  obtain ⟨h1, h2, h3, h4, h5⟩ := h
  refine ⟨fun j v hj => (World.cell?_setCell_other _ _ _ _ (by simp <;> omega)).trans (h1 j v hj), fun j hj => ⟨?_, by simpa using (h2 j hj).2⟩, (World.cell?_setCell_other _ _ _ _ (by simp <;> omega)).trans h3, by rw [World.cell?_setCell_same' _ _ _ h4]; rfl, by simpa using h5⟩
  rw [World.cell?_setCell_other _ _ _ _ (by simp <;> omega)]; exact (h2 j hj).1
theorem keepRH2 {m p b : Nat} {Z : List Value} {w : World} (hb : b ≠ m + 1) (hm1 : m + 1 ≠ p)
    (h : w.rangeAt b 0 Z ∧ w.there (m + 1) 0 32 ∧ w.cell? ⟨m, 0, none⟩ = some (.pointer (some ⟨p, 0, none⟩)) ∧ (w.cell? ⟨p, 1, none⟩).isSome = true ∧ w.frozen? ⟨p, 1, none⟩ = false) (vs : List Value) :
    (w.setCells (m + 1) 0 vs).rangeAt b 0 Z ∧ (w.setCells (m + 1) 0 vs).there (m + 1) 0 32 ∧ (w.setCells (m + 1) 0 vs).cell? ⟨m, 0, none⟩ = some (.pointer (some ⟨p, 0, none⟩)) ∧ ((w.setCells (m + 1) 0 vs).cell? ⟨p, 1, none⟩).isSome = true ∧ (w.setCells (m + 1) 0 vs).frozen? ⟨p, 1, none⟩ = false := by
  obtain ⟨h1, h2, h3, h4, h5⟩ := h
  refine ⟨World.rangeAt_setCells_apart h1 _ _ _ (Or.inl hb), World.there_setCells h2 _ _ _, ?_, ?_, by rw [World.frozen?_setCells]; exact h5⟩
  · exact (World.cell?_setCells_out _ _ _ _ _ (by intro e; simp at e)).trans h3
  · rw [World.cell?_setCells_out _ _ _ _ _ (by intro e; exact absurd e.symm hm1)]; exact h4

theorem rdHash_len (st : RS) : (rdHash st).1.length = 32 := by
  unfold rdHash
  cases st with
  | none => simp
  | some l =>
    dsimp only
    split
    · rename_i h; rw [List.length_take]; omega
    · simp

end Go.Proofs.YtlahdaanfhedoaaDoor
