/- A struct or an array that is built of all its parts: its cells are the parts' cells in a row. -/
import Derived.Test.YtaffpgafbjhahaaDoorBase
import Derived.Laws.Tables
import Derived.Great.FillDense
namespace Go.Proofs.YtaffpgafbjhahaaDoor
open Go.RowKit

/-- the parts' cells in a row -/
def flatCells (vs : List Value) : List Value := vs.flatMap fun v => v.cells.toList
/-- where the parts lie: one behind the other -/
def Laid (pl : Nat → Option (Nat × Nat)) : Nat → Nat → List Value → Prop
  | _, _, [] => True
  | i, off, v :: vs => pl i = some (off, v.cells.size) ∧ Laid pl (i + 1) (off + v.cells.size) vs

theorem fold_part (pre mid post : List Value) (l : List Value) (h : l.length = mid.length) :
    (l.zipIdx 0).foldl (fun cs (x : Value × Nat) => cs.setIfInBounds (pre.length + x.2) x.1) (pre ++ mid ++ post).toArray = (pre ++ l ++ post).toArray := by
  obtain ⟨h1, h2⟩ := Great.foldl_set pre.length l 0 (pre ++ mid ++ post).toArray
  apply Array.ext_getElem?
  intro k
  rw [h2 k]
  simp only [Nat.add_zero, List.size_toArray, List.length_append, List.getElem?_toArray]
  by_cases hk : pre.length ≤ k ∧ k < pre.length + l.length ∧ k < pre.length + mid.length + post.length
  · rw [if_pos hk, List.append_assoc, List.getElem?_append_right hk.1, List.getElem?_append_left (by omega)]
  · rw [if_neg hk]
    by_cases hp : k < pre.length
    · rw [List.append_assoc, List.append_assoc, List.getElem?_append_left hp, List.getElem?_append_left hp]
    · rw [List.append_assoc, List.append_assoc, List.getElem?_append_right (by omega), List.getElem?_append_right (by omega), List.getElem?_append_right (by omega), List.getElem?_append_right (by omega), h]

theorem fill_laid (pl : Nat → Option (Nat × Nat)) : ∀ (vs : List Value) (i : Nat) (pre mid post : List Value), Laid pl i pre.length vs → mid.length = (flatCells vs).length →
    Instr.fill pl (pre ++ mid ++ post).toArray ((vs.zipIdx i).map fun x => (x.2, x.1)) = some (pre ++ flatCells vs ++ post).toArray
  | [], i, pre, mid, post, _, hm => by
    have : mid = [] := List.length_eq_zero_iff.1 (by rw [hm]; rfl)
    subst this; rfl
  | v :: vs, i, pre, mid, post, hl, hm => by
    obtain ⟨h1, h2⟩ := hl
    have hlen : (flatCells (v :: vs)).length = v.cells.size + (flatCells vs).length := by simp [flatCells]
    rw [hlen] at hm
    have hmid : mid = mid.take v.cells.size ++ mid.drop v.cells.size := (List.take_append_drop _ _).symm
    have ht : (mid.take v.cells.size).length = v.cells.size := by rw [List.length_take]; omega
    have hd : (mid.drop v.cells.size).length = (flatCells vs).length := by rw [List.length_drop]; omega
    generalize mid.take v.cells.size = m1 at *
    generalize mid.drop v.cells.size = m2 at *
    subst hmid
    have e : pre ++ (m1 ++ m2) ++ post = pre ++ m1 ++ (m2 ++ post) := by simp
    have f := fold_part pre m1 (m2 ++ post) v.cells.toList (by simpa using ht.symm)
    have r := fill_laid pl vs (i + 1) (pre ++ v.cells.toList) m2 post (by rw [List.length_append, Array.length_toList]; exact h2) hd
    simp only [List.zipIdx_cons, List.map_cons]
    unfold Instr.fill
    simp only [h1]
    rw [if_neg (by simp; omega), e]
    have f' : (v.cells.zipIdx.foldl (fun cs (x : Value × Nat) => cs.setIfInBounds (pre.length + x.2) x.1) (pre ++ m1 ++ (m2 ++ post)).toArray) = (pre ++ v.cells.toList ++ m2 ++ post).toArray := by
      rw [← Array.foldl_toList, Array.toList_zipIdx, f]
      simp
    rw [f', r]
    simp [flatCells]

section
variable {P : Program}
theorem built_struct (t : TypeId) (fields : Array Field) (places : List (Nat × Nat)) (vs : List Value) (hu : P.underlying t = some (.struct fields))
    (hp : fields.toList.mapM (fun f => (P.info? f.type).map fun i => (f.offset, i.size)) = some places)
    (hz : (P.info? t).map (fun i => i.zero.map (fun v => v.cells.size)) = some (some (flatCells vs).length))
    (hl : Laid (places.toArray[·]?) 0 0 vs) : P.built t ((vs.zipIdx 0).map fun x => (x.2, x.1)) = some (flatCells vs).toArray := by
  unfold Program.built
  cases hi : P.info? t with
  | none => simp [hi] at hz
  | some it =>
    cases hzz : it.zero with
    | none => simp [hi, hzz] at hz
    | some z =>
      have hs : z.cells.size = (flatCells vs).length := by simpa [hi, hzz] using hz
      simp only [hu, hp, hzz]
      have := fill_laid (places.toArray[·]?) vs 0 [] z.cells.toList [] hl (by simpa using hs)
      simpa using this

/-- the arm: at a struct that is built of all its fields, in their order -/
theorem wpList_build_all {ops : Array Oper} {rest : List Oper} {o : Oper} {a : Act} {w : World} {Q : Exit → Act → World → Prop} (hgd : Region.wanted o (yielded ops a.tmps) = true) (t : TypeId) (parts : Array (Nat × Operand)) (ho : o.op = .build t parts)
    (vs : List Value) (hv : (parts.map fun (i, x) => (i, a.eval x)).toList = (vs.zipIdx 0).map fun x => (x.2, x.1))
    (fields : Array Field) (places : List (Nat × Nat)) (hu : P.underlying t = some (.struct fields))
    (hp : fields.toList.mapM (fun f => (P.info? f.type).map fun i => (f.offset, i.size)) = some places)
    (hz : (P.info? t).map (fun i => i.zero.map (fun v => v.cells.size)) = some (some (flatCells vs).length))
    (hl : Laid (places.toArray[·]?) 0 0 vs)
    (h : wpList P ops Q rest (a.put o.dst (.agg (flatCells vs).toArray)) w) : wpList P ops Q (o :: rest) a w := by
  refine wpList_wanted hgd fun K hK => ?_
  have hb := built_struct (P := P) t fields places vs hu hp hz hl
  unfold Oper.wp execOp
  have hb' : P.built t (parts.map fun (i, x) => (i, a.eval x)).toList = some (flatCells vs).toArray := by rw [hv]; exact hb
  simp only [ho, Sem.run_bind, run_build w t _ _ hb', Result.andThen_ok]
  exact hK _ _ h
/-- .. the cells under a name -/
theorem wpList_build_as {ops : Array Oper} {rest : List Oper} {o : Oper} {a : Act} {w : World} {Q : Exit → Act → World → Prop} (hgd : Region.wanted o (yielded ops a.tmps) = true) (t : TypeId) (parts : Array (Nat × Operand)) (ho : o.op = .build t parts)
    (vs : List Value) (hv : (parts.map fun (i, x) => (i, a.eval x)).toList = (vs.zipIdx 0).map fun x => (x.2, x.1)) (cs : List Value) (hcs : flatCells vs = cs)
    (fields : Array Field) (places : List (Nat × Nat)) (hu : P.underlying t = some (.struct fields))
    (hp : fields.toList.mapM (fun f => (P.info? f.type).map fun i => (f.offset, i.size)) = some places) (n : Nat) (hn : cs.length = n)
    (hz : (P.info? t).map (fun i => i.zero.map (fun v => v.cells.size)) = some (some n))
    (hl : Laid (places.toArray[·]?) 0 0 vs)
    (h : wpList P ops Q rest (a.put o.dst (.agg cs.toArray)) w) : wpList P ops Q (o :: rest) a w := by
  subst hcs hn
  exact wpList_build_all hgd t parts ho vs hv fields places hu hp hz hl h
end

end Go.Proofs.YtaffpgafbjhahaaDoor
