/- Steps of regions that draw their order: a load, a new variable, a store of a whole struct or array. No program. -/
import Derived.Test.YtfnginmoiecgnaaDoorApp
import Derived.Test.YtfnginmoiecgnaaDoorBuild
namespace Go.Proofs.YtfnginmoiecgnaaDoor
open Go.RowKit
set_option maxRecDepth 100000

section
variable {P : Program} {o : Oper} {a : Act} {w : World} {K : Act → World → Prop} {Q : Exit → Act → World → Prop}
theorem wp_load_part (ty : TypeId) (x : Operand) (ho : o.op = .load ty x)
    (g k : Nat) (hx : a.eval x = .pointer (some ⟨g, k, none⟩)) (vs : List Value) (d : TypeDesc) (hr : RowAt w g k vs)
    (hu : P.underlying ty = some d) (hd : (match d with | .struct _ | .array _ _ => true | _ => false) = true) (hi : (P.info? ty).map (·.size) = some vs.length)
    (h : K (a.put o.dst (.agg vs.toArray)) w) : o.wp P a w K Q := by
  unfold Oper.wp execOp
  simp only [ho, hx, Instr.loadAt, Instr.sureAddr, Sem.run_bind, Sem.run_pure, Result.andThen_ok, run_loadVar_part w g k ty vs d hr hu hd hi]
  exact h
theorem wp_alloc_as (ty : TypeId) (ho : o.op = .alloc ty) (Z : List Value)
    (hz : (P.info? ty).map (fun i => i.zero.map (fun v => v.cells)) = some (some Z.toArray))
    (h : ∀ w2, Blk w2 w.heap.size Z ty → w.grownBy w2 none → w2.heap.size = w.heap.size + 1 → K (a.put o.dst (.pointer (some ⟨w.heap.size, 0, none⟩))) w2) : o.wp P a w K Q := by
  have hrun : (Instr.alloc ty true (.tuple #[])).run P w = .ok (.pointer (some ⟨w.heap.size, 0, none⟩)) (w.alloc (.cells Z.toArray ty)) := by
    cases hq : P.info? ty with
    | none => simp [hq] at hz
    | some i =>
      cases hv : i.zero with
      | none => simp [hq, hv] at hz
      | some v =>
        have hc : v.cells = Z.toArray := by simpa [hq, hv] using hz
        simp [Instr.alloc, Sem.run_bind, zeroValue, typeInfo, hq, hv, newVar, newRow, hc]
  unfold Oper.wp execOp
  simp only [ho, Sem.run_bind, Sem.run_pure, Result.andThen_ok, hrun]
  exact h _ (Blk.new w Z ty) (World.grownBy_alloc w _ none) (by simp)
theorem wp_store_part (ty : TypeId) (x y : Operand) (ho : o.op = .store ty x y)
    (g k : Nat) (hx : a.eval x = .pointer (some ⟨g, k, none⟩)) (vs cur : List Value) (T : TypeId) (hy : a.eval y = .agg vs.toArray) (hb : Blk w g cur T) (hfit : k + vs.length ≤ cur.length)
    (h1 : ∀ v ∈ vs, v.oneCell' = true) (hi : (P.info? ty).map (·.size) = some vs.length)
    (h : ∀ w2, w.grownBy w2 (some g) → w2.heap.size = w.heap.size → Blk w2 g (cur.take k ++ vs ++ cur.drop (k + vs.length)) T → K (a.put o.dst undef) w2) : o.wp P a w K Q := by
  have hst := run_storeCells_at (P := P) g k T vs 0 cur.toArray w hb (by simpa using hfit) h1
  have hrun : (storeVar ty ⟨g, k, none⟩ (.agg vs.toArray)).run P w = .ok () (w.setRow g (cur.take k ++ vs ++ cur.drop (k + vs.length)).toArray) := by
    cases hq : P.info? ty with
    | none => simp [hq] at hi
    | some i =>
      have hs : i.size = vs.length := by simpa [hq] using hi
      simpa [storeVar, Sem.run_bind, sizeOf, typeInfo, hq, hs, Value.cells] using hst
  unfold Oper.wp execOp
  simp only [ho, hx, hy, Instr.storeAt, Instr.sureAddr, Sem.run_bind, Sem.run_pure, Result.andThen_ok, hrun]
  refine h _ ⟨rfl, rfl, rfl, by simp, fun j _ hj => setRow_other w g j _ (by simpa using hj)⟩ (by simp) ?_
  exact setRow_heap w g cur.toArray _ T (0, 0) hb
theorem wp_store_whole (ty : TypeId) (x y : Operand) (ho : o.op = .store ty x y)
    (g : Nat) (hx : a.eval x = .pointer (some ⟨g, 0, none⟩)) (vs cur : List Value) (T : TypeId) (hy : a.eval y = .agg vs.toArray) (hb : Blk w g cur T) (hfit : vs.length = cur.length)
    (h1 : ∀ v ∈ vs, v.oneCell' = true) (hi : (P.info? ty).map (·.size) = some vs.length)
    (h : ∀ w2, w.grownBy w2 (some g) → w2.heap.size = w.heap.size → Blk w2 g vs T → K (a.put o.dst undef) w2) : o.wp P a w K Q := by
  refine wp_store_part ty x y ho g 0 hx vs cur T hy hb (by omega) h1 hi fun w2 g2 s2 b2 => h w2 g2 s2 ?_
  have e3 : cur.take 0 ++ vs ++ cur.drop (0 + vs.length) = vs := by rw [List.take_zero, List.nil_append, Nat.zero_add, List.drop_eq_nil_of_le (by omega), List.append_nil]
  rwa [e3] at b2
end

end Go.Proofs.YtfnginmoiecgnaaDoor
