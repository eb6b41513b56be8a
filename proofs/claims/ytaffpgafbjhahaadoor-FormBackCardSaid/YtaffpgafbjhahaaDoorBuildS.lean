/- A slice that is built of things of several cells. -/
import Derived.Test.YtaffpgafbjhahaaDoorBuild
namespace Go.Proofs.YtaffpgafbjhahaaDoor
open Go.RowKit

theorem laid_same (size : Nat) : ∀ (vs : List Value) (i : Nat), (∀ v ∈ vs, v.cells.size = size) → Laid (fun i => some (i * size, size)) i (i * size) vs
  | [], _, _ => trivial
  | v :: vs, i, h => by
    have hv := h v (by simp)
    refine ⟨by rw [hv], ?_⟩
    have := laid_same size vs (i + 1) (fun v hv => h v (by simp [hv]))
    rw [hv, show i * size + size = (i + 1) * size by rw [Nat.add_mul, Nat.one_mul]]
    exact this
theorem flatCells_length (size : Nat) : ∀ (vs : List Value), (∀ v ∈ vs, v.cells.size = size) → (flatCells vs).length = vs.length * size
  | [], _ => by simp [flatCells]
  | v :: vs, h => by
    have := flatCells_length size vs (fun v hv => h v (by simp [hv]))
    unfold flatCells at this ⊢
    rw [List.flatMap_cons, List.length_append, this, Array.length_toList, h v (by simp), List.length_cons, Nat.add_mul]; omega

section
variable {P : Program}
theorem run_buildSlice_all (w : World) (t e : TypeId) (i : TypeInfo) (z : Value) (size : Nat) (ht : P.underlying t = some (.slice e)) (hi : P.info? e = some i) (hz : i.zero = some z) (hs : i.size = size)
    (vs : List Value) (h : ∀ v ∈ vs, v.cells.size = size) (hn : vs.length * size ≤ 16777216) :
    (Instr.buildSlice t vs.length ((vs.zipIdx 0).map fun x => (x.2, x.1)).toArray).run P w = .ok (.slice (some ⟨w.heap.size, 0, none⟩) vs.length vs.length) (w.alloc (.cells (flatCells vs).toArray e)) := by
  have hl := laid_same size vs 0 h
  rw [Nat.zero_mul] at hl
  have hfl := flatCells_length size vs h
  have hf : ∀ mid : List Value, mid.length = (flatCells vs).length → Instr.fill (fun i => some (i * size, size)) mid.toArray ((vs.zipIdx 0).map fun x => (x.2, x.1)) = some (flatCells vs).toArray := by
    intro mid hm
    have := fill_laid (fun i => some (i * size, size)) vs 0 [] mid [] (by simpa using hl) hm
    simpa using this
  unfold Instr.buildSlice
  have hn' : ¬ (vs.length * size > 2 ^ 24) := by omega
  by_cases h0 : vs.length * size = 0
  · have hf0 := hf ((Array.range (vs.length * size)).map (fun k => (#[] : Array Value)[k % (#[] : Array Value).size]!)).toList (by simp [hfl])
    rw [Array.toArray_toList] at hf0
    simp [Sem.run_bind, run_underlying ht, sizeOf, typeInfo, hi, hs, hn', h0] at hf0 ⊢
    simp [hf0, newRow]
  · have hf0 := hf ((Array.range (vs.length * size)).map (fun k => z.cells[k % z.cells.size]!)).toList (by simp [hfl])
    rw [Array.toArray_toList] at hf0
    simp [Sem.run_bind, run_underlying ht, sizeOf, typeInfo, zeroValue, hi, hs, hz, hn', h0] at hf0 ⊢
    simp [hf0, newRow]

/-- the arm -/
theorem wpList_buildSlice_all {ops : Array Oper} {rest : List Oper} {o : Oper} {a : Act} {w : World} {Q : Exit → Act → World → Prop} (hgd : Region.wanted o (yielded ops a.tmps) = true) (t : TypeId) (n : Nat) (parts : Array (Nat × Operand)) (ho : o.op = .buildSlice t n parts)
    (vs : List Value) (hv : (parts.map fun (i, x) => (i, a.eval x)).toList = (vs.zipIdx 0).map fun x => (x.2, x.1)) (hvn : vs.length = n) (cs : List Value) (hcs : flatCells vs = cs)
    (e : TypeId) (z : Value) (size : Nat) (ht : P.underlying t = some (.slice e)) (hi : (P.info? e).map (fun i => (i.zero, i.size)) = some (some z, size)) (h1 : ∀ v ∈ vs, v.cells.size = size) (hn : vs.length * size ≤ 16777216)
    (h : ∀ w2, Blk w2 w.heap.size cs e → w.grownBy w2 none → w2.heap.size = w.heap.size + 1 → wpList P ops Q rest (a.put o.dst (.slice (some ⟨w.heap.size, 0, none⟩) n n)) w2) : wpList P ops Q (o :: rest) a w := by
  subst hcs hvn
  refine wpList_wanted hgd fun K hK => ?_
  cases hq : P.info? e with
  | none => simp [hq] at hi
  | some i =>
    have hi' : i.zero = some z ∧ i.size = size := by simpa [hq] using hi
    have hr := run_buildSlice_all (P := P) w t e i z size ht hq hi'.1 hi'.2 vs h1 hn
    unfold Oper.wp execOp
    have hv' : (parts.map fun (i, x) => (i, a.eval x)) = ((vs.zipIdx 0).map fun x => (x.2, x.1)).toArray := by
      apply Array.ext'
      rw [hv]
    simp only [ho, hv', Sem.run_bind, hr, Result.andThen_ok]
    exact hK _ _ (h _ (Blk.new w _ e) (World.grownBy_alloc w _ none) (by simp))
end

/-- the arm: at a struct that is built of some of its parts; its cells are reckoned ahead -/
theorem wpList_build_eq {P : Program} {ops : Array Oper} {rest : List Oper} {o : Oper} {a : Act} {w : World} {Q : Exit → Act → World → Prop} (hgd : Region.wanted o (yielded ops a.tmps) = true) (t : TypeId) (parts : Array (Nat × Operand)) (ho : o.op = .build t parts)
    (ps : List (Nat × Value)) (hp : (parts.map fun (i, x) => (i, a.eval x)).toList = ps) (cs : List Value) (hb : P.built t ps = some cs.toArray)
    (h : wpList P ops Q rest (a.put o.dst (.agg cs.toArray)) w) : wpList P ops Q (o :: rest) a w := by
  refine wpList_wanted hgd fun K hK => ?_
  unfold Oper.wp execOp
  have hb' : P.built t (parts.map fun (i, x) => (i, a.eval x)).toList = some cs.toArray := by rw [hp]; exact hb
  simp only [ho, Sem.run_bind, run_build w t _ _ hb', Result.andThen_ok]
  exact hK _ _ h

end Go.Proofs.YtaffpgafbjhahaaDoor
