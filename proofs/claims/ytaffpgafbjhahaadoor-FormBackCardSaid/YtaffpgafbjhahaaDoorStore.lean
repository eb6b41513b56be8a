/- The arm at a store of a scalar into a block. -/
import Derived.Test.YtaffpgafbjhahaaDoorBase
import Derived.Laws.CopyRow
namespace Go.Proofs.YtaffpgafbjhahaaDoor
open Go.RowKit
section
variable {P : Program}
theorem wpList_store_cell {ops : Array Oper} {rest : List Oper} {o : Oper} {a : Act} {w : World} {Q : Exit → Act → World → Prop} (hgd : Region.wanted o (yielded ops a.tmps) = true) (ty : TypeId) (x y : Operand) (ho : o.op = .store ty x y)
    (g k : Nat) (hx : a.eval x = .pointer (some ⟨g, k, none⟩)) (v : Value) (hy : a.eval y = v) (hv : v.oneCell' = true) (cur : List Value) (T : TypeId) (hb : Blk w g cur T) (hk : k < cur.length)
    (hi : (P.info? ty).map (·.size) = some 1)
    (h : ∀ w2, w.grownBy w2 (some g) → w2.heap.size = w.heap.size → Blk w2 g (cur.set k v) T → wpList P ops Q rest (a.put o.dst undef) w2) : wpList P ops Q (o :: rest) a w := by
  refine wpList_wanted hgd fun K hK => ?_
  have hst := run_storeCells_at (P := P) g k T [v] 0 cur.toArray w hb (by simp; omega) (by simpa using hv)
  have hc : v.cells = #[v] := by cases v <;> first | rfl | cases hv
  have e : cur.take k ++ [v] ++ cur.drop (k + 1) = cur.set k v := by rw [List.set_eq_take_append_cons_drop, if_pos hk]; simp
  have hrun : (storeVar ty ⟨g, k, none⟩ v).run P w = .ok () (w.setRow g (cur.set k v).toArray) := by
    rw [← e]
    cases hq : P.info? ty with
    | none => simp [hq] at hi
    | some i =>
      have hs : i.size = 1 := by simpa [hq] using hi
      simpa [storeVar, Sem.run_bind, sizeOf, typeInfo, hq, hs, hc] using hst
  unfold Oper.wp execOp
  simp only [ho, hx, hy, Instr.storeAt, Instr.sureAddr, Sem.run_bind, Sem.run_pure, Result.andThen_ok, hrun]
  refine hK _ _ (h _ ⟨rfl, rfl, rfl, by simp, fun j _ hj => setRow_other w g j _ (by simpa using hj)⟩ (by simp) ?_)
  exact setRow_heap w g cur.toArray _ T (0, 0) hb
end
end Go.Proofs.YtaffpgafbjhahaaDoor
