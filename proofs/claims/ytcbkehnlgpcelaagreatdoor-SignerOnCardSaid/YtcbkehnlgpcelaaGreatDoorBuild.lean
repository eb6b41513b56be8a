/- A struct or an array that is built of all its parts: its cells are the parts' cells in a row. A slice that is built of things of several cells. The arm at a store of a scalar into a block. -/
import Derived.Test.YtcbkehnlgpcelaaGreatDoorBase
import Derived.Laws.Tables
import Derived.Great.FillDense
import Derived.Laws.CopyRow
namespace Go.Proofs.YtcbkehnlgpcelaaGreatDoor
open Go.RowKit

/-- the parts' cells in a row -/
def flatCells (vs : List Value) : List Value := vs.flatMap fun v => v.cells.toList
/-- where the parts lie: one behind the other -/
def Laid (pl : Nat → Option (Nat × Nat)) : Nat → Nat → List Value → Prop
  | _, _, [] => True
  | i, off, v :: vs => pl i = some (off, v.cells.size) ∧ Laid pl (i + 1) (off + v.cells.size) vs

theorem fold_part (pre mid post : List Value) (l : List Value) (h : l.length = mid.length) :
    (l.zipIdx 0).foldl (fun cs (x : Value × Nat) => cs.setIfInBounds (pre.length + x.2) x.1) (pre ++ mid ++ post).toArray = (pre ++ l ++ post).toArray := by
  obtain ⟨h1, h2⟩ := Great.foldl_set pre.length l 0 (pre ++ mid ++ post).toArray
  apply Array.ext_getElem?
  intro k
  rw [h2 k]
  simp only [Nat.add_zero, List.size_toArray, List.length_append, List.getElem?_toArray]
  by_cases hk : pre.length ≤ k ∧ k < pre.length + l.length ∧ k < pre.length + mid.length + post.length
  · rw [if_pos hk, List.append_assoc, List.getElem?_append_right hk.1, List.getElem?_append_left (by omega)]
  · rw [if_neg hk]
    by_cases hp : k < pre.length
    · rw [List.append_assoc, List.append_assoc, List.getElem?_append_left hp, List.getElem?_append_left hp]
    · rw [List.append_assoc, List.append_assoc, List.getElem?_append_right (by omega), List.getElem?_append_right (by omega), List.getElem?_append_right (by omega), List.getElem?_append_right (by omega), h]

theorem fill_laid (pl : Nat → Option (Nat × Nat)) : ∀ (vs : List Value) (i : Nat) (pre mid post : List Value), Laid pl i pre.length vs → mid.length = (flatCells vs).length →
    Instr.fill pl (pre ++ mid ++ post).toArray ((vs.zipIdx i).map fun x => (x.2, x.1)) = some (pre ++ flatCells vs ++ post).toArray
  | [], i, pre, mid, post, _, hm => by
    have : mid = [] := List.length_eq_zero_iff.1 (by rw [hm]; rfl)
    subst this; rfl
  | v :: vs, i, pre, mid, post, hl, hm => by
    obtain ⟨h1, h2⟩ := hl
    have hlen : (flatCells (v :: vs)).length = v.cells.size + (flatCells vs).length := by simp [flatCells]
    rw [hlen] at hm
    have hmid : mid = mid.take v.cells.size ++ mid.drop v.cells.size := (List.take_append_drop _ _).symm
    have ht : (mid.take v.cells.size).length = v.cells.size := by rw [List.length_take]; omega
    have hd : (mid.drop v.cells.size).length = (flatCells vs).length := by rw [List.length_drop]; omega
    generalize mid.take v.cells.size = m1 at *
    generalize mid.drop v.cells.size = m2 at *
    subst hmid
    have e : pre ++ (m1 ++ m2) ++ post = pre ++ m1 ++ (m2 ++ post) := by simp
    have f := fold_part pre m1 (m2 ++ post) v.cells.toList (by simpa using ht.symm)
    have r := fill_laid pl vs (i + 1) (pre ++ v.cells.toList) m2 post (by rw [List.length_append, Array.length_toList]; exact h2) hd
    simp only [List.zipIdx_cons, List.map_cons]
    unfold Instr.fill
    simp only [h1]
    rw [if_neg (by simp; omega), e]
    have f' : (v.cells.zipIdx.foldl (fun cs (x : Value × Nat) => cs.setIfInBounds (pre.length + x.2) x.1) (pre ++ m1 ++ (m2 ++ post)).toArray) = (pre ++ v.cells.toList ++ m2 ++ post).toArray := by
      rw [← Array.foldl_toList, Array.toList_zipIdx, f]
      simp
    rw [f', r]
    simp [flatCells]

section
variable {P : Program}
theorem built_struct (t : TypeId) (fields : Array Field) (places : List (Nat × Nat)) (vs : List Value) (hu : P.underlying t = some (.struct fields))
    (hp : fields.toList.mapM (fun f => (P.info? f.type).map fun i => (f.offset, i.size)) = some places)
    (hz : (P.info? t).map (fun i => i.zero.map (fun v => v.cells.size)) = some (some (flatCells vs).length))
    (hl : Laid (places.toArray[·]?) 0 0 vs) : P.built t ((vs.zipIdx 0).map fun x => (x.2, x.1)) = some (flatCells vs).toArray := by
  unfold Program.built
  cases hi : P.info? t with
  | none => simp [hi] at hz
  | some it =>
    cases hzz : it.zero with
    | none => simp [hi, hzz] at hz
    | some z =>
      have hs : z.cells.size = (flatCells vs).length := by simpa [hi, hzz] using hz
      simp only [hu, hp, hzz]
      have := fill_laid (places.toArray[·]?) vs 0 [] z.cells.toList [] hl (by simpa using hs)
      simpa using this

/-- the arm: at a struct that is built of all its fields, in their order -/
theorem wpList_build_all {ops : Array Oper} {rest : List Oper} {o : Oper} {a : Act} {w : World} {Q : Exit → Act → World → Prop} (hgd : Region.wanted o (yielded ops a.tmps) = true) (t : TypeId) (parts : Array (Nat × Operand)) (ho : o.op = .build t parts)
    (vs : List Value) (hv : (parts.map fun (i, x) => (i, a.eval x)).toList = (vs.zipIdx 0).map fun x => (x.2, x.1))
    (fields : Array Field) (places : List (Nat × Nat)) (hu : P.underlying t = some (.struct fields))
    (hp : fields.toList.mapM (fun f => (P.info? f.type).map fun i => (f.offset, i.size)) = some places)
    (hz : (P.info? t).map (fun i => i.zero.map (fun v => v.cells.size)) = some (some (flatCells vs).length))
    (hl : Laid (places.toArray[·]?) 0 0 vs)
    (h : wpList P ops Q rest (a.put o.dst (.agg (flatCells vs).toArray)) w) : wpList P ops Q (o :: rest) a w := by
  refine wpList_wanted hgd fun K hK => ?_
  have hb := built_struct (P := P) t fields places vs hu hp hz hl
  unfold Oper.wp execOp
  have hb' : P.built t (parts.map fun (i, x) => (i, a.eval x)).toList = some (flatCells vs).toArray := by rw [hv]; exact hb
  simp only [ho, Sem.run_bind, run_build w t _ _ hb', Result.andThen_ok]
  exact hK _ _ h
/-- .. the cells under a name -/
theorem wpList_build_as {ops : Array Oper} {rest : List Oper} {o : Oper} {a : Act} {w : World} {Q : Exit → Act → World → Prop} (hgd : Region.wanted o (yielded ops a.tmps) = true) (t : TypeId) (parts : Array (Nat × Operand)) (ho : o.op = .build t parts)
    (vs : List Value) (hv : (parts.map fun (i, x) => (i, a.eval x)).toList = (vs.zipIdx 0).map fun x => (x.2, x.1)) (cs : List Value) (hcs : flatCells vs = cs)
    (fields : Array Field) (places : List (Nat × Nat)) (hu : P.underlying t = some (.struct fields))
    (hp : fields.toList.mapM (fun f => (P.info? f.type).map fun i => (f.offset, i.size)) = some places) (n : Nat) (hn : cs.length = n)
    (hz : (P.info? t).map (fun i => i.zero.map (fun v => v.cells.size)) = some (some n))
    (hl : Laid (places.toArray[·]?) 0 0 vs)
    (h : wpList P ops Q rest (a.put o.dst (.agg cs.toArray)) w) : wpList P ops Q (o :: rest) a w := by
  subst hcs hn
  exact wpList_build_all hgd t parts ho vs hv fields places hu hp hz hl h
end

theorem laid_same (size : Nat) : ∀ (vs : List Value) (i : Nat), (∀ v ∈ vs, v.cells.size = size) → Laid (fun i => some (i * size, size)) i (i * size) vs
  | [], _, _ => trivial
  | v :: vs, i, h => by
    have hv := h v (by simp)
    refine ⟨by rw [hv], ?_⟩
    have := laid_same size vs (i + 1) (fun v hv => h v (by simp [hv]))
    rw [hv, show i * size + size = (i + 1) * size by rw [Nat.add_mul, Nat.one_mul]]
    exact this
theorem flatCells_length (size : Nat) : ∀ (vs : List Value), (∀ v ∈ vs, v.cells.size = size) → (flatCells vs).length = vs.length * size
  | [], _ => by simp [flatCells]
  | v :: vs, h => by
    have := flatCells_length size vs (fun v hv => h v (by simp [hv]))
    unfold flatCells at this ⊢
    rw [List.flatMap_cons, List.length_append, this, Array.length_toList, h v (by simp), List.length_cons, Nat.add_mul]; omega

section
variable {P : Program}
theorem run_buildSlice_all (w : World) (t e : TypeId) (i : TypeInfo) (z : Value) (size : Nat) (ht : P.underlying t = some (.slice e)) (hi : P.info? e = some i) (hz : i.zero = some z) (hs : i.size = size)
    (vs : List Value) (h : ∀ v ∈ vs, v.cells.size = size) (hn : vs.length * size ≤ 16777216) :
    (Instr.buildSlice t vs.length ((vs.zipIdx 0).map fun x => (x.2, x.1)).toArray).run P w = .ok (.slice (some ⟨w.heap.size, 0, none⟩) vs.length vs.length) (w.alloc (.cells (flatCells vs).toArray e)) := by
  have hl := laid_same size vs 0 h
  rw [Nat.zero_mul] at hl
  have hfl := flatCells_length size vs h
  have hf : ∀ mid : List Value, mid.length = (flatCells vs).length → Instr.fill (fun i => some (i * size, size)) mid.toArray ((vs.zipIdx 0).map fun x => (x.2, x.1)) = some (flatCells vs).toArray := by
    intro mid hm
    have := fill_laid (fun i => some (i * size, size)) vs 0 [] mid [] (by simpa using hl) hm
    simpa using this
  unfold Instr.buildSlice
  have hn' : ¬ (vs.length * size > 2 ^ 24) := by omega
  by_cases h0 : vs.length * size = 0
  · have hf0 := hf ((Array.range (vs.length * size)).map (fun k => (#[] : Array Value)[k % (#[] : Array Value).size]!)).toList (by simp [hfl])
    rw [Array.toArray_toList] at hf0
    simp [Sem.run_bind, run_underlying ht, sizeOf, typeInfo, hi, hs, h0] at hf0 ⊢
    simp [hf0, newRow]
  · have hf0 := hf ((Array.range (vs.length * size)).map (fun k => z.cells[k % z.cells.size]!)).toList (by simp [hfl])
    rw [Array.toArray_toList] at hf0
    simp [Sem.run_bind, run_underlying ht, sizeOf, typeInfo, zeroValue, hi, hs, hz, hn', h0] at hf0 ⊢
    simp [hf0, newRow]

/-- the arm -/
theorem wpList_buildSlice_all {ops : Array Oper} {rest : List Oper} {o : Oper} {a : Act} {w : World} {Q : Exit → Act → World → Prop} (hgd : Region.wanted o (yielded ops a.tmps) = true) (t : TypeId) (n : Nat) (parts : Array (Nat × Operand)) (ho : o.op = .buildSlice t n parts)
    (vs : List Value) (hv : (parts.map fun (i, x) => (i, a.eval x)).toList = (vs.zipIdx 0).map fun x => (x.2, x.1)) (hvn : vs.length = n) (cs : List Value) (hcs : flatCells vs = cs)
    (e : TypeId) (z : Value) (size : Nat) (ht : P.underlying t = some (.slice e)) (hi : (P.info? e).map (fun i => (i.zero, i.size)) = some (some z, size)) (h1 : ∀ v ∈ vs, v.cells.size = size) (hn : vs.length * size ≤ 16777216)
    (h : ∀ w2, Blk w2 w.heap.size cs e → w.grownBy w2 none → w2.heap.size = w.heap.size + 1 → wpList P ops Q rest (a.put o.dst (.slice (some ⟨w.heap.size, 0, none⟩) n n)) w2) : wpList P ops Q (o :: rest) a w := by
  subst hcs hvn
  refine wpList_wanted hgd fun K hK => ?_
  cases hq : P.info? e with
  | none => simp [hq] at hi
  | some i =>
    have hi' : i.zero = some z ∧ i.size = size := by simpa [hq] using hi
    have hr := run_buildSlice_all (P := P) w t e i z size ht hq hi'.1 hi'.2 vs h1 hn
    unfold Oper.wp execOp
    have hv' : (parts.map fun (i, x) => (i, a.eval x)) = ((vs.zipIdx 0).map fun x => (x.2, x.1)).toArray := by
      apply Array.ext'
      rw [hv]
    simp only [ho, hv', Sem.run_bind, hr, Result.andThen_ok]
    exact hK _ _ (h _ (Blk.new w _ e) (World.grownBy_alloc w _ none) (by simp))
end

/-- the arm: at a struct that is built of some of its parts; its cells are reckoned ahead -/
theorem wpList_build_eq {P : Program} {ops : Array Oper} {rest : List Oper} {o : Oper} {a : Act} {w : World} {Q : Exit → Act → World → Prop} (hgd : Region.wanted o (yielded ops a.tmps) = true) (t : TypeId) (parts : Array (Nat × Operand)) (ho : o.op = .build t parts)
    (ps : List (Nat × Value)) (hp : (parts.map fun (i, x) => (i, a.eval x)).toList = ps) (cs : List Value) (hb : P.built t ps = some cs.toArray)
    (h : wpList P ops Q rest (a.put o.dst (.agg cs.toArray)) w) : wpList P ops Q (o :: rest) a w := by
  refine wpList_wanted hgd fun K hK => ?_
  unfold Oper.wp execOp
  have hb' : P.built t (parts.map fun (i, x) => (i, a.eval x)).toList = some cs.toArray := by rw [hp]; exact hb
  simp only [ho, Sem.run_bind, run_build w t _ _ hb', Result.andThen_ok]
  exact hK _ _ h

section
variable {P : Program}
theorem wpList_store_cell {ops : Array Oper} {rest : List Oper} {o : Oper} {a : Act} {w : World} {Q : Exit → Act → World → Prop} (hgd : Region.wanted o (yielded ops a.tmps) = true) (ty : TypeId) (x y : Operand) (ho : o.op = .store ty x y)
    (g k : Nat) (hx : a.eval x = .pointer (some ⟨g, k, none⟩)) (v : Value) (hy : a.eval y = v) (hv : v.oneCell' = true) (cur : List Value) (T : TypeId) (hb : Blk w g cur T) (hk : k < cur.length)
    (hi : (P.info? ty).map (·.size) = some 1)
    (h : ∀ w2, w.grownBy w2 (some g) → w2.heap.size = w.heap.size → Blk w2 g (cur.set k v) T → wpList P ops Q rest (a.put o.dst undef) w2) : wpList P ops Q (o :: rest) a w := by
  refine wpList_wanted hgd fun K hK => ?_
  have hst := run_storeCells_at (P := P) g k T [v] 0 cur.toArray w hb (by simp; omega) (by simpa using hv)
  have hc : v.cells = #[v] := by cases v <;> first | rfl | cases hv
  have e : cur.take k ++ [v] ++ cur.drop (k + 1) = cur.set k v := by rw [List.set_eq_take_append_cons_drop, if_pos hk]; simp
  have hrun : (storeVar ty ⟨g, k, none⟩ v).run P w = .ok () (w.setRow g (cur.set k v).toArray) := by
    rw [← e]
    cases hq : P.info? ty with
    | none => simp [hq] at hi
    | some i =>
      have hs : i.size = 1 := by simpa [hq] using hi
      simpa [storeVar, Sem.run_bind, sizeOf, typeInfo, hq, hs, hc] using hst
  unfold Oper.wp execOp
  simp only [ho, hx, hy, Instr.storeAt, Instr.sureAddr, Sem.run_bind, Sem.run_pure, Result.andThen_ok, hrun]
  refine hK _ _ (h _ ⟨rfl, rfl, rfl, by simp, fun j _ hj => setRow_other w g j _ (by simpa using hj)⟩ (by simp) ?_)
  exact setRow_heap w g cur.toArray _ T (0, 0) hb
end

end Go.Proofs.YtcbkehnlgpcelaaGreatDoor
