/- Rows of words by append. -/
import Derived.Test.YtaffpgafbjhahaaDoorProg
import Derived.Test.YtaffpgafbjhahaaDoorApp
import Derived.Test.YtaffpgafbjhahaaDoorBk
import Derived.StillTailTactics
namespace Go.Proofs.YtaffpgafbjhahaaDoor
open Go.RowKit
set_option maxRecDepth 100000

theorem u32_info : (Tryd.prog.info? 198).map (fun i => (i.zero, i.size, i.bytes)) = some (some (.int .u32 0), 1, 4) := by kernel_rfl
/-- a row of words of the call's own -/
def OwnW (B : Nat) (v : Value) (V : List Nat) (w : World) : Prop := w.ownsRow B 198 1 v V.length (wCells V)
theorem OwnW.nil (B : Nat) (w : World) : OwnW B (.slice none 0 0) [] w := World.ownsRow_nil w B _ 1
theorem OwnW.shape {B : Nat} {v : Value} {V : List Nat} {w : World} (h : OwnW B v V w) : ∃ a c, v = .slice a V.length c := by
  rcases h.2 with ⟨rfl, hn⟩ | ⟨g, cap, cur, rfl, _⟩
  · exact ⟨none, 0, by rw [hn]⟩
  · exact ⟨_, _, rfl⟩
theorem OwnW.blk {B : Nat} {v : Value} {V : List Nat} {w : World} (h : OwnW B v V w) (hV : 0 < V.length) :
    ∃ g cap R, v = .slice (some ⟨g, 0, none⟩) V.length cap ∧ B ≤ g ∧ Blk w g (wCells V ++ R) 198 ∧ cap = V.length + R.length ∧ cap ≤ maxLen := by
  rcases h.2 with ⟨_, hn⟩ | ⟨g, cap, cur, rfl, hbg, hg, hnc, hcm, hcs, htake⟩
  · omega
  · rw [Nat.mul_one] at htake hcs
    refine ⟨g, cap, cur.toList.drop V.length, rfl, hbg, ?_, ?_, hcm⟩
    · rw [← htake, List.take_append_drop]
      show w.heap[g]? = _
      rw [hg]
    · simp; omega
theorem OwnW.of_blk {B g cap : Nat} {V : List Nat} {R : List Value} {w : World} (hB : B ≤ g) (hb : Blk w g (wCells V ++ R) 198) (hc : cap = V.length + R.length) (hm : cap ≤ maxLen) :
    OwnW B (.slice (some ⟨g, 0, none⟩) V.length cap) V w := by
  refine ⟨by rw [wCells_length, Nat.mul_one], Or.inr ⟨g, cap, _, rfl, hB, hb, by omega, hm, ?_, ?_⟩⟩
  · simp [wCells_length]; omega
  · show ((wCells V ++ R).take (V.length * 1)) = wCells V
    rw [Nat.mul_one, List.take_left' (wCells_length V)]
theorem OwnW.mono {B B' : Nat} {v : Value} {V : List Nat} {w : World} (h : OwnW B v V w) (hB : B' ≤ B) : OwnW B' v V w := by
  refine ⟨h.1, ?_⟩
  rcases h.2 with h | ⟨g, cap, cur, e, hbg, r⟩
  · exact Or.inl h
  · exact Or.inr ⟨g, cap, cur, e, by omega, r⟩
theorem OwnW.keptO {B : Nat} {v : Value} {V : List Nat} {w w' : World} {row : Option Nat} (h : OwnW B v V w) (hg : w.grownBy w' row) (hr : ∀ p, row = some p → p < B := by simp) : OwnW B v V w' := by
  refine World.ownsRow.kept h hg ?_
  rcases h.2 with ⟨rfl, hn⟩ | ⟨g, cap, cur, rfl, hbg, _⟩
  · exact Or.inl rfl
  · refine Or.inr ?_
    intro e
    have e2 : some g = row := e
    have := hr g e2.symm
    omega

/-- .. append(v, x), of one word -/
theorem wpList_appw_one {ops : Array Oper} {rest : List Oper} {o : Oper} {a : Act} {w : World} {Q : Exit → Act → World → Prop} (hgd : Region.wanted o (yielded ops a.tmps) = true) (s x : Operand)
    (ho : o.op = .call { callee := .builtin .append, args := #[s, x], argTypes := #[197, 197] }) {B : Nat} {v : Value} {V : List Nat} (hs : a.eval s = v) (hown : OwnW B v V w) (n : Nat) {u : Int}
    (hx : a.eval x = .slice (some ⟨w.heap.size, 0, none⟩) 1 1) (hc : u = (n : Int)) (hlen : V.length ≤ 1000000) (hB : B ≤ w.heap.size)
    (h : ∀ v' w', OwnW B v' (V ++ [n]) w' → Below B w w' → wpList Tryd.prog ops Q rest (a.put o.dst v') w') : wpList Tryd.prog ops Q (o :: rest) a (w.alloc (.cells #[.int .u32 u] 198)) := by
  subst hc
  refine wpList_app_new w hgd s x 197 ho B 198 (.int .u32 0) 1 4 Tryd.underlying197 u32_info rfl v V.length (wCells V) hs hown hx [.int .u32 (n : Int)] rfl (by intro u hu; rw [List.mem_singleton.1 hu]; rfl) hlen (by decide) hB ?_
  intro v' w' h1 h2 _
  refine h v' w' ?_ h2
  unfold OwnW
  rw [List.length_append, wCells_append]
  exact h1
theorem step_appw_one {ops : Array Oper} {o : Oper} {a : Act} {w : World} {K : Act → World → Prop} {Q : Exit → Act → World → Prop} {E : Prop} (hgd : o.guard = none) (s x : Operand)
    (ho : o.op = .call { callee := .builtin .append, args := #[s, x], argTypes := #[197, 197] }) {B : Nat} {v : Value} {V : List Nat} (hs : a.eval s = v) (hown : OwnW B v V w) (n : Nat) {u : Int}
    (hx : a.eval x = .slice (some ⟨w.heap.size, 0, none⟩) 1 1) (hc : u = (n : Int)) (hlen : V.length ≤ 1000000) (hB : B ≤ w.heap.size)
    (h : ∀ v' w', OwnW B v' (V ++ [n]) w' → Below B w w' → K (a.put o.dst v') w') : if Region.wanted o (yielded ops a.tmps) = true then Oper.wp Tryd.prog o a (w.alloc (.cells #[.int .u32 u] 198)) K Q else E := by
  subst hc
  refine step_wanted hgd (wp_app_new w s x 197 ho B 198 (.int .u32 0) 1 4 Tryd.underlying197 u32_info rfl v V.length (wCells V) hs hown hx [.int .u32 (n : Int)] rfl (by intro u hu; rw [List.mem_singleton.1 hu]; rfl) hlen (by decide) hB ?_)
  intro v' w' h1 h2 _
  refine h v' w' ?_ h2
  unfold OwnW
  rw [List.length_append, wCells_append]
  exact h1
theorem srcW {w : World} {g o n c : Nat} {V : List Nat} (hn : n = V.length) (hr : RowAt w g o (wCells V)) : Src Tryd.prog 1 197 (.slice (some ⟨g, o, none⟩) n c) V.length (wCells V) w := by
  subst hn
  refine Src.ofSlice _ Tryd.underlying197 _ _ _ _ (by rw [wCells_length, Nat.mul_one]) (fun j u hj => ?_) (wCells_one V)
  have e : (⟨g, o, none⟩ : Addr).add j = ⟨g, o + j, none⟩ := by unfold Addr.add; split <;> simp_all
  rw [e]; exact hr j u hj
/-- append(v, u...), of words -/
theorem wpList_appw {ops : Array Oper} {rest : List Oper} {o : Oper} {a : Act} {w : World} {Q : Exit → Act → World → Prop} (hgd : Region.wanted o (yielded ops a.tmps) = true) (s x : Operand)
    (ho : o.op = .call { callee := .builtin .append, args := #[s, x], argTypes := #[197, 197] }) {B : Nat} {v : Value} {V U : List Nat} (hs : a.eval s = v) (hown : OwnW B v V w)
    (xv : Value) (hx : a.eval x = xv) (hsrc : Src Tryd.prog 1 197 xv U.length (wCells U) w) (hlen : V.length + U.length ≤ 1000000) (hB : B ≤ w.heap.size)
    (h : ∀ v' w', OwnW B v' (V ++ U) w' → Below B w w' → wpList Tryd.prog ops Q rest (a.put o.dst v') w') : wpList Tryd.prog ops Q (o :: rest) a w := by
  refine wpList_wanted hgd fun _ hK => ?_
  refine wp_append_srcs w s x 197 197 ho B 198 (.int .u32 0) 1 4 Tryd.underlying197 u32_info rfl v V.length (wCells V) hs hown xv U.length _ hx hsrc (by unfold maxLen; omega) (by omega) hB ?_
  intro v' w' h1 _ h2 _
  refine hK _ _ (h v' w' ?_ h2)
  unfold OwnW
  rw [List.length_append, wCells_append]
  exact h1

/-- the step, among quiet ones: a load of a struct or an array -/
theorem wpStill_load_part {P : Program} {ops : Array Oper} {rest : List Oper} {o : Oper} {a : Act} {w : World} {Q : Act → Prop} (hgd : Region.wanted o (yielded ops a.tmps) = true) (ty : TypeId) (x : Operand) (ho : o.op = .load ty x)
    (g k : Nat) (hx : a.eval x = .pointer (some ⟨g, k, none⟩)) (vs : List Value) (d : TypeDesc) (hr : RowAt w g k vs)
    (hu : P.underlying ty = some d) (hd : (match d with | .struct _ | .array _ _ => true | _ => false) = true) (hi : (P.info? ty).map (·.size) = some vs.length)
    (h : wpStill P ops w Q rest (a.put o.dst (.agg vs.toArray))) : wpStill P ops w Q (o :: rest) a := by
  refine wpStill_step fun K hK => ?_
  rw [if_pos hgd]
  unfold Oper.still execOp
  simp only [ho, hx, Instr.loadAt, Instr.sureAddr, Sem.run_bind, Sem.run_pure, Result.andThen_ok, run_loadVar_part w g k ty vs d hr hu hd hi, Oper.stillUpon_value]
  exact hK _ h

end Go.Proofs.YtaffpgafbjhahaaDoor
