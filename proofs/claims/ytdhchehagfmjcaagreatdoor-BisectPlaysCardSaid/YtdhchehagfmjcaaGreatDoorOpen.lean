import Derived.Test.YtdhchehagfmjcaaGreatDoorBase
import Derived.ProofKit
import Derived.Test.YtdhchehagfmjcaaGreatDoorSlc
import Derived.OpenShut
import Derived.ChangeArms
namespace Go.Proofs.YtdhchehagfmjcaaGreatDoor
open Go.RowKit
set_option maxRecDepth 100000
section
variable {P : Program} {W : World} {base : Nat}
def CellsOk (P : Program) (W : World) (base : Nat) : List TypeId → List Value → Prop
 | [], [] => True
 | t :: ts, c :: cs => Cell.okWide P W .any base t c ∧ CellsOk P W base ts cs
 | _, _ => False
theorem cellsOk_of : ∀ (ts : List TypeId) (cs : List Value), cs.length = ts.length → (∀ (i : Nat) (v : Value), cs[i]? = some v → ∃ u, ts[i]? = some u ∧ Cell.okWide P W .any base u v) → CellsOk P W base ts cs
 | [], [], _, _ => trivial
 | t :: ts, c :: cs, hl, h => by
  refine ⟨?_, cellsOk_of ts cs (by simpa using hl) (fun i v hi => ?_)⟩
  ·obtain ⟨u, h1, h2⟩ := h 0 c rfl
   simp at h1; subst h1; exact h2
  ·obtain ⟨u, h1, h2⟩ := h (i + 1) v (by simpa using hi)
   exact ⟨u, by simpa using h1, h2⟩
 | [], _ :: _, hl, _ => by simp at hl
 | _ :: _, [], hl, _ => by simp at hl
theorem cells_open {t : TypeId} {v : Value} {ts : List TypeId} (h : Value.okWide P W .any base t v) (hd : (P.underlying t).map (fun d => match d with | .struct _ | .array _ _ => true | _ => false) = some true)
  (hts : P.cellTypes P.depth t = some ts) (hn : P.cellsOf t = ts.length) : ∃ cs : List Value, v = .agg cs.toArray ∧ CellsOk P W base ts cs := by
 unfold Value.okWide at h
 have h' : ∃ cs, v = .agg cs ∧ cs.size = P.cellsOf t ∧ Row.okWide P W .any base t cs := by
  cases hu : P.underlying t with
  | none => simp [hu] at hd
  | some d => rw [hu] at h hd; cases d <;> simp_all
 obtain ⟨cs, rfl, hs, ts', hts', _, hc⟩ := h'
 rw [hts] at hts'
 injection hts' with hts'
 subst hts'
 refine ⟨cs.toList, by simp, cellsOk_of ts cs.toList (by simp [hs, hn]) (fun i v hi => ?_)⟩
 have hi' : cs[i]? = some v := by simpa using hi
 obtain ⟨u, h1, h2⟩ := hc i v hi'
 have hlt : i < ts.length := by have := (Array.getElem?_eq_some_iff.1 hi').1; omega
 rw [Nat.mod_eq_of_lt hlt] at h1
 exact ⟨u, h1, h2⟩
theorem int_cell {t : TypeId} {k : IntKind} {c : Value} (hu : P.underlying t = some (.int k)) (h : Cell.okWide P W .any base t c) : ∃ n, c = .int k n ∧ k.min ≤ n ∧ n ≤ k.max := by
 unfold Cell.okWide at h
 rw [hu] at h
 unfold Cell.ok at h
 rw [hu] at h
 cases c <;> simp_all [IntKind.has]
theorem cellsOk_cons {t : TypeId} {ts : List TypeId} {cs : List Value} (h : CellsOk P W base (t :: ts) cs) : ∃ c rest, cs = c :: rest ∧ Cell.okWide P W .any base t c ∧ CellsOk P W base ts rest := by
 cases cs with
 | nil => exact h.elim
 | cons c cs => exact ⟨c, cs, rfl, h⟩
theorem cellsOk_nil {cs : List Value} (h : CellsOk P W base [] cs) : cs = [] := by
 cases cs with
 | nil => rfl
 | cons c cs => exact h.elim
end
open Go.RowKit Go.ChangeShapes Go.WideShapes
section
variable {P : Program} {W : World} {base : Nat}
theorem slice_cell {t e : TypeId} {c : Value} (hu : P.underlying t = some (.slice e)) (h : Cell.okWide P W .any base t c) :
  ∃ ao n k, c = .slice ao n k ∧ n ≤ k ∧ k ≤ maxLen ∧ ((ao = none ∧ n = 0 ∧ k = 0) ∨ ∃ g o, ao = some ⟨g, o, none⟩ ∧ g < W.heap.size) := by
 unfold Cell.okWide at h
 rw [hu] at h
 unfold Cell.ok at h
 rw [hu] at h
 cases c with
 | slice ao n k =>
  cases ao with
  | none =>
   have : n = 0 ∧ k = 0 := by
    revert h
    cases n <;> cases k <;> simp
   exact ⟨none, n, k, rfl, by omega, by unfold maxLen; omega, Or.inl ⟨rfl, this.1, this.2⟩⟩
  | some a =>
   have h' : n ≤ k ∧ (k : Int) ≤ IntKind.i64.max ∧ W.has P .any base a e k := by simpa using h
   obtain ⟨h1, h2, _, h4, row, cells, h5, _⟩ := h'
   obtain ⟨g, o, s⟩ := a
   dsimp only at h4 h5
   subst h4
   refine ⟨_, n, k, rfl, h1, ?_, Or.inr ⟨g, o, rfl, ?_⟩⟩
   ·simp [IntKind.max, IntKind.signed, IntKind.bits] at h2; unfold maxLen; omega
   ·unfold World.shape? at h5
    split at h5
    ·rename_i hh; exact Lib.lt_of_heap hh
    ·cases h5
 | _ => simp at h
end
theorem list_of {D : Type} {Q : Nat → D → Prop} : ∀ n, (∀ i, i < n → ∃ x, Q i x) → ∃ l : List D, l.length = n ∧ ∀ i (h : i < l.length), Q i l[i]
 | 0, _ => ⟨[], rfl, fun i h => by simp at h⟩
 | n + 1, h => by
  obtain ⟨l, hl, hq⟩ := list_of n (fun i hi => h i (by omega))
  obtain ⟨x, hx⟩ := h n (by omega)
  refine ⟨l ++ [x], by simp [hl], fun i hi => ?_⟩
  by_cases hin : i < l.length
  ·rw [List.getElem_append_left hin]; exact hq i hin
  ·have : i = n := by simp at hi; omega
   subst this
   rw [List.getElem_append_right (by omega)]
   simpa [hl] using hx
theorem cells_two {w : World} {b n : Nat} {a : Addr} {cs : List Value} (h : w.cells? b a n = some cs) : cs.length = n ∧ ∀ j, j < n → w.cell? (a.add j) = cs[j]? := by
 obtain ⟨_, h1, h2⟩ := World.cells?_some h
 exact ⟨h1, h2⟩
theorem lit_i64 {n : Int} (h : (Lit.int .i64 n).wf = true) : i64R n := by
 simp [Lit.wf, IntKind.min, IntKind.max, IntKind.signed, IntKind.bits] at h; unfold i64R; omega
theorem lit_u64 {n : Int} (h : (Lit.int .u64 n).wf = true) : u64R n := by
 simp [Lit.wf, IntKind.min, IntKind.max, IntKind.signed, IntKind.bits] at h; unfold u64R; omega
end Go.Proofs.YtdhchehagfmjcaaGreatDoor
