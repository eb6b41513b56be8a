import Derived.Test.YtdhchehagfmjcaaGreatDoorDecode
import Derived.Deep.Cut
import Derived.Deep.CutRange
import Derived.Deep.RegionHeld
import Derived.Deep.Upon
import Derived.Laws.Cover3
namespace Go.Proofs.YtdhchehagfmjcaaGreatDoor
open Go.RowKit
set_option maxRecDepth 100000
def ZH : List Value := Lib.byteCells (List.replicate 32 0)
theorem ZH_info : (Tryz.prog.info? 23).map (fun i => i.zero.map (fun v => v.cells)) = some (some ZH.toArray) := by kernel_rfl
theorem ZH_length : ZH.length = 32 := by rfl
theorem sizeH (cs : List Value) (h : cs.length = 32) : (Tryz.prog.info? 23).map (·.size) = some cs.length := by rw [h]; kernel_rfl
theorem ZH_one : ∀ v ∈ ZH, v.oneCell' = true := oneCell_bytes _
theorem heap_setCell_same {w : World} {g : Nat} {C : Array Value} {T : TypeId} {fr : Nat × Nat} (h : w.heap[g]? = some (.cells C T fr)) (i : Nat) (x : Value) :
  (w.setCell ⟨g, i, none⟩ x).heap[g]? = some (.cells (C.setIfInBounds i x) T fr) := by
 obtain ⟨hg, hgt⟩ := Array.getElem?_eq_some_iff.1 h
 simp [World.setCell, hg, hgt, Array.getElem_modify]
theorem heap_setCells_same {g : Nat} {T : TypeId} {fr : Nat × Nat} : ∀ (vs : List Value) (o : Nat) (w : World) (cs : List Value), w.heap[g]? = some (.cells cs.toArray T fr) → o + vs.length ≤ cs.length →
  (w.setCells g o vs).heap[g]? = some (.cells (cs.take o ++ vs ++ cs.drop (o + vs.length)).toArray T fr)
 | [], o, w, cs, h, _ => by simpa [World.setCells] using h
 | v :: vs, o, w, cs, h, hle => by
  rw [List.length_cons] at hle
  have h1 := heap_setCell_same h o v
  have h2 := heap_setCells_same vs (o + 1) (w.setCell ⟨g, o, none⟩ v) (cs.set o v) (by simpa using h1) (by simp; omega)
  unfold World.setCells
  rw [h2]
  congr 3
  rw [List.take_set, List.drop_set_of_lt (by omega), List.take_succ_eq_append_getElem (show o < cs.length by omega), List.length_cons]
  have e : (List.take o cs ++ [cs[o]'(by omega)]).set o v = List.take o cs ++ [v] := by
   rw [List.set_append, if_neg (by rw [List.length_take]; omega), List.length_take, Nat.min_eq_left (by omega), Nat.sub_self]; rfl
  rw [e, show o + 1 + vs.length = o + (vs.length + 1) by omega]
  simp
theorem grown_setCells {w : World} {g o : Nat} {vs : List Value} : w.grownBy (w.setCells g o vs) (some g) := by
 have hs : ∀ (vs : List Value) (o : Nat) (w : World), (w.setCells g o vs).heap.size = w.heap.size ∧ (w.setCells g o vs).tape = w.tape := by
  intro vs
  induction vs with
  | nil => intro o w; exact ⟨rfl, rfl⟩
  | cons v vs ih =>
   intro o w
   unfold World.setCells
   obtain ⟨h1, h2⟩ := ih (o + 1) (w.setCell ⟨g, o, none⟩ v)
   exact ⟨h1.trans (by simp [World.setCell]), h2.trans rfl⟩
 exact ⟨World.os_setCells _ _ _ _, (hs vs o w).2, World.output_setCells _ _ _ _, by rw [(hs vs o w).1]; exact Nat.le_refl _, fun k hk hne => World.heap_setCells_other _ _ _ _ hk (by intro e; subst e; exact hne rfl)⟩
end Go.Proofs.YtdhchehagfmjcaaGreatDoor
