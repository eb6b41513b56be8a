/- Steps of regions that draw their order: a load, a new variable, a store of a whole struct or array. No program. What a call made, block by block; steps of a walk that keep it. No program. -/
import Derived.Test.YtcbkehnlgpcelaaGreatDoorApp
import Derived.Test.YtcbkehnlgpcelaaGreatDoorBuild
import Derived.Test.YtcbkehnlgpcelaaGreatDoorDecode
import Derived.Test.YtcbkehnlgpcelaaGreatDoorEq
namespace Go.Proofs.YtcbkehnlgpcelaaGreatDoor
open Go.RowKit
set_option maxRecDepth 100000

section
variable {P : Program} {o : Oper} {a : Act} {w : World} {K : Act → World → Prop} {Q : Exit → Act → World → Prop}
theorem wp_load_part (ty : TypeId) (x : Operand) (ho : o.op = .load ty x)
    (g k : Nat) (hx : a.eval x = .pointer (some ⟨g, k, none⟩)) (vs : List Value) (d : TypeDesc) (hr : RowAt w g k vs)
    (hu : P.underlying ty = some d) (hd : (match d with | .struct _ | .array _ _ => true | _ => false) = true) (hi : (P.info? ty).map (·.size) = some vs.length)
    (h : K (a.put o.dst (.agg vs.toArray)) w) : o.wp P a w K Q := by
  unfold Oper.wp execOp
  simp only [ho, hx, Instr.loadAt, Instr.sureAddr, Sem.run_bind, Sem.run_pure, Result.andThen_ok, run_loadVar_part w g k ty vs d hr hu hd hi]
  exact h
theorem wp_alloc_as (ty : TypeId) (ho : o.op = .alloc ty) (Z : List Value)
    (hz : (P.info? ty).map (fun i => i.zero.map (fun v => v.cells)) = some (some Z.toArray))
    (h : ∀ w2, Blk w2 w.heap.size Z ty → w.grownBy w2 none → w2.heap.size = w.heap.size + 1 → K (a.put o.dst (.pointer (some ⟨w.heap.size, 0, none⟩))) w2) : o.wp P a w K Q := by
  have hrun : (Instr.alloc ty true (.tuple #[])).run P w = .ok (.pointer (some ⟨w.heap.size, 0, none⟩)) (w.alloc (.cells Z.toArray ty)) := by
    cases hq : P.info? ty with
    | none => simp [hq] at hz
    | some i =>
      cases hv : i.zero with
      | none => simp [hq, hv] at hz
      | some v =>
        have hc : v.cells = Z.toArray := by simpa [hq, hv] using hz
        simp [Instr.alloc, Sem.run_bind, zeroValue, typeInfo, hq, hv, newVar, newRow, hc]
  unfold Oper.wp execOp
  simp only [ho, Sem.run_bind, Sem.run_pure, Result.andThen_ok, hrun]
  exact h _ (Blk.new w Z ty) (World.grownBy_alloc w _ none) (by simp)
theorem wp_store_part (ty : TypeId) (x y : Operand) (ho : o.op = .store ty x y)
    (g k : Nat) (hx : a.eval x = .pointer (some ⟨g, k, none⟩)) (vs cur : List Value) (T : TypeId) (hy : a.eval y = .agg vs.toArray) (hb : Blk w g cur T) (hfit : k + vs.length ≤ cur.length)
    (h1 : ∀ v ∈ vs, v.oneCell' = true) (hi : (P.info? ty).map (·.size) = some vs.length)
    (h : ∀ w2, w.grownBy w2 (some g) → w2.heap.size = w.heap.size → Blk w2 g (cur.take k ++ vs ++ cur.drop (k + vs.length)) T → K (a.put o.dst undef) w2) : o.wp P a w K Q := by
  have hst := run_storeCells_at (P := P) g k T vs 0 cur.toArray w hb (by simpa using hfit) h1
  have hrun : (storeVar ty ⟨g, k, none⟩ (.agg vs.toArray)).run P w = .ok () (w.setRow g (cur.take k ++ vs ++ cur.drop (k + vs.length)).toArray) := by
    cases hq : P.info? ty with
    | none => simp [hq] at hi
    | some i =>
      have hs : i.size = vs.length := by simpa [hq] using hi
      simpa [storeVar, Sem.run_bind, sizeOf, typeInfo, hq, hs, Value.cells] using hst
  unfold Oper.wp execOp
  simp only [ho, hx, hy, Instr.storeAt, Instr.sureAddr, Sem.run_bind, Sem.run_pure, Result.andThen_ok, hrun]
  refine h _ ⟨rfl, rfl, rfl, by simp, fun j _ hj => setRow_other w g j _ (by simpa using hj)⟩ (by simp) ?_
  exact setRow_heap w g cur.toArray _ T (0, 0) hb
theorem wp_store_whole (ty : TypeId) (x y : Operand) (ho : o.op = .store ty x y)
    (g : Nat) (hx : a.eval x = .pointer (some ⟨g, 0, none⟩)) (vs cur : List Value) (T : TypeId) (hy : a.eval y = .agg vs.toArray) (hb : Blk w g cur T) (hfit : vs.length = cur.length)
    (h1 : ∀ v ∈ vs, v.oneCell' = true) (hi : (P.info? ty).map (·.size) = some vs.length)
    (h : ∀ w2, w.grownBy w2 (some g) → w2.heap.size = w.heap.size → Blk w2 g vs T → K (a.put o.dst undef) w2) : o.wp P a w K Q := by
  refine wp_store_part ty x y ho g 0 hx vs cur T hy hb (by omega) h1 hi fun w2 g2 s2 b2 => h w2 g2 s2 ?_
  have e3 : cur.take 0 ++ vs ++ cur.drop (0 + vs.length) = vs := by rw [List.take_zero, List.nil_append, Nat.zero_add, List.drop_eq_nil_of_le (by omega), List.append_nil]
  rwa [e3] at b2
theorem wp_store_cell (ty : TypeId) (x y : Operand) (ho : o.op = .store ty x y)
    (g k : Nat) (hx : a.eval x = .pointer (some ⟨g, k, none⟩)) (v : Value) (hy : a.eval y = v) (hv : v.oneCell' = true) (cur : List Value) (T : TypeId) (hb : Blk w g cur T) (hk : k < cur.length)
    (hi : (P.info? ty).map (·.size) = some 1)
    (h : ∀ w2, w.grownBy w2 (some g) → w2.heap.size = w.heap.size → Blk w2 g (cur.set k v) T → K (a.put o.dst undef) w2) : o.wp P a w K Q := by
  have hst := run_storeCells_at (P := P) g k T [v] 0 cur.toArray w hb (by simp; omega) (by simpa using hv)
  have hc : v.cells = #[v] := by cases v <;> first | rfl | cases hv
  have e : cur.take k ++ [v] ++ cur.drop (k + 1) = cur.set k v := by rw [List.set_eq_take_append_cons_drop, if_pos hk]; simp
  have hrun : (storeVar ty ⟨g, k, none⟩ v).run P w = .ok () (w.setRow g (cur.set k v).toArray) := by
    rw [← e]
    cases hq : P.info? ty with
    | none => simp [hq] at hi
    | some i =>
      have hs : i.size = 1 := by simpa [hq] using hi
      simpa [storeVar, Sem.run_bind, sizeOf, typeInfo, hq, hs, hc] using hst
  unfold Oper.wp execOp
  simp only [ho, hx, hy, Instr.storeAt, Instr.sureAddr, Sem.run_bind, Sem.run_pure, Result.andThen_ok, hrun]
  refine h _ ⟨rfl, rfl, rfl, by simp, fun j _ hj => setRow_other w g j _ (by simpa using hj)⟩ (by simp) ?_
  exact setRow_heap w g cur.toArray _ T (0, 0) hb
end

/-- since w0, nothing that was has changed, and these blocks were made -/
structure Own (w0 w : World) (L : List (Nat × List Value × TypeId)) : Prop where
  grown : w0.grownBy w none
  blk : ∀ e ∈ L, Blk w e.1 e.2.1 e.2.2
  ge : ∀ e ∈ L, w0.heap.size ≤ e.1
  nodup : L.Pairwise fun d e => d.1 ≠ e.1
section
variable {w0 w w2 : World} {L : List (Nat × List Value × TypeId)} {g n : Nat} {cs vs cur : List Value} {T : TypeId}
theorem Own.start (w : World) : Own w w [] := ⟨World.grownBy.refl _ _, by simp, by simp, List.Pairwise.nil⟩
theorem Own.call (O : Own w0 w L) (h : w.grownBy w2 none) : Own w0 w2 L :=
  ⟨Lib.grownBy_trans O.grown h, fun e he => (O.blk e he).grown h (by simp), O.ge, O.nodup⟩
theorem Own.new (O : Own w0 w L) (b : Blk w2 w.heap.size vs T) (h : w.grownBy w2 none) : Own w0 w2 ((w.heap.size, vs, T) :: L) := by
  refine ⟨Lib.grownBy_trans O.grown h, ?_, ?_, ?_⟩
  · intro e he
    rcases List.mem_cons.1 he with rfl | he
    · exact b
    · exact (O.blk e he).grown h (by simp)
  · intro e he
    rcases List.mem_cons.1 he with rfl | he
    · exact O.grown.size
    · exact O.ge e he
  · refine List.Pairwise.cons (fun e he => ?_) O.nodup
    have := (O.blk e he).lt
    dsimp only
    omega
theorem Own.at_ (O : Own w0 w L) (n : Nat) (h : L[n]? = some (g, cs, T)) : Blk w g cs T := O.blk _ (List.mem_of_getElem? h)
theorem Own.low (O : Own w0 w L) (n : Nat) (h : L[n]? = some (g, cs, T)) : w0.heap.size ≤ g := O.ge _ (List.mem_of_getElem? h)
theorem Own.set (O : Own w0 w L) (n : Nat) (h : L[n]? = some (g, cur, T)) (b : Blk w2 g vs T) (hg : w.grownBy w2 (some g)) : Own w0 w2 (L.set n (g, vs, T)) := by
  obtain ⟨hn, hn2⟩ := List.getElem?_eq_some_iff.1 h
  refine ⟨grown_new O.grown hg (O.low n h), ?_, ?_, ?_⟩
  · intro e he
    obtain ⟨i, hi, rfl⟩ := List.getElem_of_mem he
    rw [List.getElem_set]
    split
    · exact b
    · rename_i hne
      rw [List.length_set] at hi
      have hlt : i < L.length := hi
      refine (O.blk L[i] (List.getElem_mem hlt)).grown hg ?_
      have hp := List.pairwise_iff_getElem.1 O.nodup
      intro e
      injection e with e
      rcases Nat.lt_or_gt_of_ne hne with h1 | h1
      · have := hp n i hn hlt h1
        rw [hn2] at this
        exact this e.symm
      · have := hp i n hlt hn h1
        rw [hn2] at this
        exact this e
  · intro e he
    rcases List.mem_or_eq_of_mem_set he with he | rfl
    · exact O.ge e he
    · exact O.low n h
  · have e : (L.set n (g, vs, T)).map (·.1) = L.map (·.1) := by
      rw [List.map_set]
      apply List.ext_getElem?
      intro i
      rw [List.getElem?_set]
      split
      · rename_i hi
        subst hi
        rw [List.length_map, if_pos hn, List.getElem?_map, List.getElem?_eq_getElem hn, hn2]; rfl
      · rfl
    have h1 : (L.map (·.1)).Pairwise (· ≠ ·) := List.pairwise_map.2 O.nodup
    rw [← e] at h1
    exact List.pairwise_map.1 h1
/-- what is forgotten -/
theorem Own.tail {e : Nat × List Value × TypeId} (O : Own w0 w (e :: L)) : Own w0 w L :=
  ⟨O.grown, fun d hd => O.blk d (List.mem_cons_of_mem _ hd), fun d hd => O.ge d (List.mem_cons_of_mem _ hd), O.nodup.tail⟩
theorem Own.forget (O : Own w0 w L) : Own w0 w [] := ⟨O.grown, by simp, by simp, List.Pairwise.nil⟩
end

/-- the walk stands at this operation: said under 'with_reducible', it fails at once at any other one -/
theorem wpList_at {P : Program} {ops : Array Oper} {rest : List Oper} {o : Oper} {a : Act} {w : World} {Q : Exit → Act → World → Prop} (op : Op) (_ho : o.op = op) (h : wpList P ops Q (o :: rest) a w) : wpList P ops Q (o :: rest) a w := h
section
variable {P : Program} {ops : Array Oper} {rest : List Oper} {o : Oper} {a : Act} {w0 w : World} {Q : Exit → Act → World → Prop} {L : List (Nat × List Value × TypeId)}
theorem wpList_own_box (ty : TypeId) (x : Operand) (ho : o.op = .box ty x) (vs : List Value) (hx : a.eval x = .agg vs.toArray) (O : Own w0 w L)
    (hgd : Region.wanted o (yielded ops a.tmps) = true) (h : ∀ b w2, Own w0 w2 ((b, vs, ty) :: L) → wpList P ops Q rest (a.put o.dst (.pointer (some ⟨b, 0, none⟩))) w2) : wpList P ops Q (o :: rest) a w :=
  wpList_box_as hgd ty x ho vs hx fun w2 b g _ => h _ w2 (O.new b g)
theorem wpList_own_alloc (ty : TypeId) (ho : o.op = .alloc ty) (Z : List Value) (hz : (P.info? ty).map (fun i => i.zero.map (fun v => v.cells)) = some (some Z.toArray)) (O : Own w0 w L)
    (hgd : Region.wanted o (yielded ops a.tmps) = true) (h : ∀ b w2, Own w0 w2 ((b, Z, ty) :: L) → wpList P ops Q rest (a.put o.dst (.pointer (some ⟨b, 0, none⟩))) w2) : wpList P ops Q (o :: rest) a w :=
  wpList_alloc_as hgd ty ho Z hz fun w2 b g _ => h _ w2 (O.new b g)
/-- a struct or an array, out of a block: all of it, or from place k on -/
theorem wpList_own_part (ty : TypeId) (x : Operand) (ho : o.op = .load ty x) (O : Own w0 w L) (n g k : Nat) (hx : a.eval x = .pointer (some ⟨g, k, none⟩)) (cs : List Value) (T : TypeId) (hn : L[n]? = some (g, cs, T))
    (vs : List Value) (d : TypeDesc) (hr : RowAt w g 0 cs → RowAt w g k vs)
    (hu : P.underlying ty = some d) (hd : (match d with | .struct _ | .array _ _ => true | _ => false) = true) (hi : (P.info? ty).map (·.size) = some vs.length)
    (hgd : Region.wanted o (yielded ops a.tmps) = true) (h : wpList P ops Q rest (a.put o.dst (.agg vs.toArray)) w) : wpList P ops Q (o :: rest) a w :=
  wpList_load_part hgd ty x ho g k hx vs d (hr (O.at_ n hn).row) hu hd hi h
theorem wpList_own_whole (ty : TypeId) (x : Operand) (ho : o.op = .load ty x) (O : Own w0 w L) (n g : Nat) (hx : a.eval x = .pointer (some ⟨g, 0, none⟩)) (vs : List Value) (T : TypeId) (hn : L[n]? = some (g, vs, T)) (d : TypeDesc)
    (hu : P.underlying ty = some d) (hd : (match d with | .struct _ | .array _ _ => true | _ => false) = true) (hi : (P.info? ty).map (·.size) = some vs.length)
    (hgd : Region.wanted o (yielded ops a.tmps) = true) (h : wpList P ops Q rest (a.put o.dst (.agg vs.toArray)) w) : wpList P ops Q (o :: rest) a w :=
  wpList_load_part hgd ty x ho g 0 hx vs d (O.at_ n hn).row hu hd hi h
/-- one cell -/
theorem wpList_own_cell (ty : TypeId) (x : Operand) (ho : o.op = .load ty x) (O : Own w0 w L) (n g k : Nat) (hx : a.eval x = .pointer (some ⟨g, k, none⟩)) (cs : List Value) (T : TypeId) (hn : L[n]? = some (g, cs, T))
    (v : Value) (hv : cs[k]? = some v) (d : TypeDesc) (hu : P.underlying ty = some d) (hd : (match d with | .struct _ | .array _ _ => true | _ => false) = false)
    (hgd : Region.wanted o (yielded ops a.tmps) = true) (h : wpList P ops Q rest (a.put o.dst v) w) : wpList P ops Q (o :: rest) a w := by
  have hc := (O.at_ n hn).row k v hv
  rw [Nat.zero_add] at hc
  refine wpList_wanted hgd fun K hK => ?_
  unfold Oper.wp execOp
  simp only [ho, hx, Instr.loadAt, Instr.sureAddr, Sem.run_bind, Sem.run_pure, Result.andThen_ok, run_loadVar_plain w _ ty d v hu hd hc]
  exact hK _ _ h
theorem wpList_own_store (ty : TypeId) (x y : Operand) (ho : o.op = .store ty x y) (O : Own w0 w L) (n g : Nat) (hx : a.eval x = .pointer (some ⟨g, 0, none⟩)) (vs cur : List Value) (T : TypeId) (hn : L[n]? = some (g, cur, T)) (hy : a.eval y = .agg vs.toArray) (hfit : vs.length = cur.length)
    (h1 : ∀ v ∈ vs, v.oneCell' = true) (hi : (P.info? ty).map (·.size) = some vs.length)
    (hgd : Region.wanted o (yielded ops a.tmps) = true) (h : ∀ w2, Own w0 w2 (L.set n (g, vs, T)) → wpList P ops Q rest (a.put o.dst undef) w2) : wpList P ops Q (o :: rest) a w :=
  wpList_store_whole hgd ty x y ho g hx vs cur T hy (O.at_ n hn) hfit h1 hi fun w2 g2 _ b2 => h w2 (O.set n hn b2 g2)
theorem wpList_own_store_part (ty : TypeId) (x y : Operand) (ho : o.op = .store ty x y) (O : Own w0 w L) (n g k : Nat) (hx : a.eval x = .pointer (some ⟨g, k, none⟩)) (vs cur : List Value) (T : TypeId) (hn : L[n]? = some (g, cur, T)) (hy : a.eval y = .agg vs.toArray) (hfit : k + vs.length ≤ cur.length)
    (h1 : ∀ v ∈ vs, v.oneCell' = true) (hi : (P.info? ty).map (·.size) = some vs.length)
    (hgd : Region.wanted o (yielded ops a.tmps) = true) (h : ∀ w2, Own w0 w2 (L.set n (g, cur.take k ++ vs ++ cur.drop (k + vs.length), T)) → wpList P ops Q rest (a.put o.dst undef) w2) : wpList P ops Q (o :: rest) a w :=
  wpList_store_part hgd ty x y ho g k hx vs cur T hy (O.at_ n hn) hfit h1 hi fun w2 g2 _ b2 => h w2 (O.set n hn b2 g2)
end

section
variable {P : Program} {ops : Array Oper} {rest : List Oper} {o : Oper} {a : Act} {w : World} {Q : Exit → Act → World → Prop}
theorem wpList_eql_own (t u : TypeId) (x y : Operand) (ho : o.op = .binOp .eql t x y u)
    (xs ys ks : List Value) (hx : a.eval x = .agg xs.toArray) (hy : a.eval y = .agg ys.toArray) (h : flat P 20 t = some ks) (fx : Fits ks xs = true) (fy : Fits ks ys = true)
    (hd : (P.underlying t).map (fun d => match d with | .struct _ | .array _ _ => true | _ => false) = some true) (hm : P.eqGuardType P.depth t = false) (hgd : Region.wanted o (yielded ops a.tmps) = true)
    (hk : wpList P ops Q rest (a.put o.dst (.bool (VEq xs ys))) w) : wpList P ops Q (o :: rest) a w := wpList_eql_flat hgd t u x y ho xs ys ks hx hy h fx fy hd hm hk
theorem wpList_neq_own (t u : TypeId) (x y : Operand) (ho : o.op = .binOp .neq t x y u)
    (xs ys ks : List Value) (hx : a.eval x = .agg xs.toArray) (hy : a.eval y = .agg ys.toArray) (h : flat P 20 t = some ks) (fx : Fits ks xs = true) (fy : Fits ks ys = true)
    (hd : (P.underlying t).map (fun d => match d with | .struct _ | .array _ _ => true | _ => false) = some true) (hm : P.eqGuardType P.depth t = false) (hgd : Region.wanted o (yielded ops a.tmps) = true)
    (hk : wpList P ops Q rest (a.put o.dst (.bool (!VEq xs ys))) w) : wpList P ops Q (o :: rest) a w := wpList_neq_flat hgd t u x y ho xs ys ks hx hy h fx fy hd hm hk
end
theorem Own.perm {w0 w : World} {L L' : List (Nat × List Value × TypeId)} (O : Own w0 w L) (h : L.Perm L') : Own w0 w L' :=
  ⟨O.grown, fun e he => O.blk e (h.mem_iff.2 he), fun e he => O.ge e (h.mem_iff.2 he), (h.pairwise_iff (fun hab => fun e => hab e.symm)).1 O.nodup⟩
theorem Own.drewN {w0 w : World} {L : List (Nat × List Value × TypeId)} (O : Own w0 w L) (n : Nat) : Own w0 (w.drewN n) L :=
  O.call ⟨rfl, rfl, rfl, Nat.le_refl _, fun _ _ _ => rfl⟩
theorem Own.drew {w0 w : World} {L : List (Nat × List Value × TypeId)} (O : Own w0 w L) : Own w0 w.drew L :=
  O.call ⟨rfl, rfl, rfl, Nat.le_refl _, fun _ _ _ => rfl⟩
theorem step_G {P : Program} {ops : Array Oper} {o : Oper} {a : Act} {w : World} {K : Act → World → Prop} {Q : Exit → Act → World → Prop} {E : Prop} (hw : Region.wanted o (yielded ops a.tmps) = true) (h : o.wp P a w K Q) :
    if Region.wanted o (yielded ops a.tmps) = true then Oper.wp P o a w K Q else E := by rw [if_pos hw]; exact h
section
variable {P : Program} {o : Oper} {a : Act} {w0 w : World} {K : Act → World → Prop} {Q : Exit → Act → World → Prop} {L : List (Nat × List Value × TypeId)}
theorem wp_own_alloc (ty : TypeId) (ho : o.op = .alloc ty) (Z : List Value) (hz : (P.info? ty).map (fun i => i.zero.map (fun v => v.cells)) = some (some Z.toArray)) (O : Own w0 w L)
    (h : ∀ b w2, Own w0 w2 ((b, Z, ty) :: L) → K (a.put o.dst (.pointer (some ⟨b, 0, none⟩))) w2) : o.wp P a w K Q :=
  wp_alloc_as ty ho Z hz fun w2 b g _ => h _ w2 (O.new b g)
theorem wp_own_store (ty : TypeId) (x y : Operand) (ho : o.op = .store ty x y) (O : Own w0 w L) (n g : Nat) (hx : a.eval x = .pointer (some ⟨g, 0, none⟩)) (vs cur : List Value) (T : TypeId) (hn : L[n]? = some (g, cur, T)) (hy : a.eval y = .agg vs.toArray) (hfit : vs.length = cur.length)
    (h1 : ∀ v ∈ vs, v.oneCell' = true) (hi : (P.info? ty).map (·.size) = some vs.length)
    (h : ∀ w2, Own w0 w2 (L.set n (g, vs, T)) → K (a.put o.dst undef) w2) : o.wp P a w K Q :=
  wp_store_whole ty x y ho g hx vs cur T hy (O.at_ n hn) hfit h1 hi fun w2 g2 _ b2 => h w2 (O.set n hn b2 g2)
end

end Go.Proofs.YtcbkehnlgpcelaaGreatDoor
