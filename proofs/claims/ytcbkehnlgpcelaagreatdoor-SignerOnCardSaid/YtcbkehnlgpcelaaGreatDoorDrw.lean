/- What a call may touch of what was there; what it made and what it holds, block by block; steps of a walk that keep it. No program. Rows of things of k cells, at some place of a block that may be written: read, cut, appended to. No program. A region that draws its order: what is read is read first; behind each thing that is done, only what may still be read has to be as it was. No program. -/
import Derived.Test.YtcbkehnlgpcelaaGreatDoorOw
import Derived.Deep.RegionHeld
namespace Go.Proofs.YtcbkehnlgpcelaaGreatDoor
open Go.RowKit
set_option maxRecDepth 100000

/-- nothing that was is otherwise but the blocks of F -/
structure Tch (F : Nat → Prop) (w w' : World) : Prop where
  os : w'.os = w.os
  tape : w'.tape = w.tape
  output : w'.output = w.output
  size : w.heap.size ≤ w'.heap.size
  block : ∀ k, k < w.heap.size → ¬ F k → w'.heap[k]? = w.heap[k]?
section
variable {F G : Nat → Prop} {w w0 w1 w2 : World} {g o n k : Nat} {cs vs cur : List Value} {T : TypeId}
theorem Tch.refl (F : Nat → Prop) (w : World) : Tch F w w := ⟨rfl, rfl, rfl, Nat.le_refl _, fun _ _ _ => rfl⟩
theorem Tch.of_grown (h : w.grownBy w1 none) : Tch F w w1 := ⟨h.os, h.tape, h.output, h.size, fun k hk _ => h.block k hk (by simp)⟩
theorem Tch.of_grown1 (h : w.grownBy w1 (some g)) (hg : F g) : Tch F w w1 := ⟨h.os, h.tape, h.output, h.size, fun k hk hf => h.block k hk (fun e => by injection e with e; subst e; exact hf hg)⟩
/-- what it touches anew may lie in new blocks, too -/
theorem Tch.trans (h : Tch F w w1) (k : Tch G w1 w2) (hG : ∀ b, G b → b < w.heap.size → F b) : Tch F w w2 :=
  ⟨k.os.trans h.os, k.tape.trans h.tape, k.output.trans h.output, Nat.le_trans h.size k.size, fun b hb hf => (k.block b (Nat.lt_of_lt_of_le hb h.size) (fun hg => hf (hG b hg hb))).trans (h.block b hb hf)⟩
theorem Tch.mono (h : Tch F w w1) (hF : ∀ b, F b → b < w.heap.size → G b) : Tch G w w1 := ⟨h.os, h.tape, h.output, h.size, fun b hb hg => h.block b hb (fun hf => hg (hF b hf hb))⟩
theorem Tch.grown (h : Tch F w w1) (hF : ∀ b, F b → w.heap.size ≤ b) : w.grownBy w1 none := ⟨h.os, h.tape, h.output, h.size, fun b hb _ => h.block b hb (fun hf => by have := hF b hf; omega)⟩
theorem Tch.row (h : Tch F w w1) (hr : RowAt w g o cs) (hg : ¬ F g) : RowAt w1 g o cs := fun j v hj => by
  have hc := hr j v hj
  exact (World.cell?_of_block (h.block g (World.block_lt_of_cell? w ⟨g, o + j, none⟩ hc) hg)).trans hc
theorem Tch.blk (h : Tch F w w1) (hb : Blk w g cs T) (hg : ¬ F g) : Blk w1 g cs T := (h.block g hb.lt hg).trans hb
theorem Tch.cell {a : Addr} {v : Value} (h : Tch F w w1) (hc : w.cell? a = some v) (hg : ¬ F a.block) : w1.cell? a = some v := (World.cell?_of_block (h.block a.block (World.block_lt_of_cell? w a hc) hg)).trans hc
end

/-- since w0, nothing that was has changed but the blocks of F; these blocks are known: new ones, or of F -/
structure OwF (F : Nat → Prop) (w0 w : World) (L : List (Nat × List Value × TypeId)) : Prop where
  tch : Tch F w0 w
  blk : ∀ e ∈ L, Blk w e.1 e.2.1 e.2.2
  ok : ∀ e ∈ L, w0.heap.size ≤ e.1 ∨ F e.1
  nodup : L.Pairwise fun d e => d.1 ≠ e.1
section
variable {F G : Nat → Prop} {w0 w w2 : World} {L : List (Nat × List Value × TypeId)} {g n : Nat} {cs vs cur : List Value} {T : TypeId}
theorem OwF.start (F : Nat → Prop) (w : World) : OwF F w w [] := ⟨Tch.refl _ _, by simp, by simp, List.Pairwise.nil⟩
/-- a block of F that is known from the beginning -/
theorem OwF.add (O : OwF F w w L) (h : Blk w g cs T) (hg : F g) (hn : ∀ e ∈ L, g ≠ e.1) : OwF F w w ((g, cs, T) :: L) :=
  ⟨O.tch, fun e he => by rcases List.mem_cons.1 he with rfl | he; exact h; exact O.blk e he, fun e he => by rcases List.mem_cons.1 he with rfl | he; exact .inr hg; exact O.ok e he, List.Pairwise.cons hn O.nodup⟩
theorem OwF.call (O : OwF F w0 w L) (h : w.grownBy w2 none) : OwF F w0 w2 L :=
  ⟨O.tch.trans (G := fun _ => False) (Tch.of_grown h) (fun _ hf => hf.elim), fun e he => (O.blk e he).grown h (by simp), O.ok, O.nodup⟩
/-- a call that touches blocks of F, or new ones, none of which is in the list -/
theorem OwF.callT (O : OwF F w0 w L) (h : Tch G w w2) (hG : ∀ b, G b → b < w0.heap.size → F b) (hL : ∀ e ∈ L, ¬ G e.1) : OwF F w0 w2 L :=
  ⟨O.tch.trans h hG, fun e he => h.blk (O.blk e he) (hL e he), O.ok, O.nodup⟩
theorem OwF.new (O : OwF F w0 w L) (b : Blk w2 w.heap.size vs T) (h : w.grownBy w2 none) : OwF F w0 w2 ((w.heap.size, vs, T) :: L) := by
  refine ⟨(O.call h).tch, ?_, ?_, ?_⟩
  · intro e he
    rcases List.mem_cons.1 he with rfl | he
    · exact b
    · exact (O.blk e he).grown h (by simp)
  · intro e he
    rcases List.mem_cons.1 he with rfl | he
    · exact .inl O.tch.size
    · exact O.ok e he
  · refine List.Pairwise.cons (fun e he => ?_) O.nodup
    have := (O.blk e he).lt
    dsimp only
    omega
theorem OwF.at_ (O : OwF F w0 w L) (n : Nat) (h : L[n]? = some (g, cs, T)) : Blk w g cs T := O.blk _ (List.mem_of_getElem? h)
theorem OwF.row_of (O : OwF F w0 w L) (h : (g, cs, T) ∈ L) : RowAt w g 0 cs := (O.blk _ h).row
theorem OwF.lie (O : OwF F w0 w L) (n : Nat) (h : L[n]? = some (g, cs, T)) : w0.heap.size ≤ g ∨ F g := O.ok _ (List.mem_of_getElem? h)
theorem OwF.ne (O : OwF F w0 w L) {i j : Nat} {d e : Nat × List Value × TypeId} (hi : L[i]? = some d) (hj : L[j]? = some e) (h : i ≠ j) : d.1 ≠ e.1 := by
  obtain ⟨h1, rfl⟩ := List.getElem?_eq_some_iff.1 hi
  obtain ⟨h2, rfl⟩ := List.getElem?_eq_some_iff.1 hj
  have hp := List.pairwise_iff_getElem.1 O.nodup
  rcases Nat.lt_or_gt_of_ne h with h | h
  · exact hp i j h1 h2 h
  · exact (hp j i h2 h1 h).symm
theorem OwF.set (O : OwF F w0 w L) (n : Nat) (h : L[n]? = some (g, cur, T)) (b : Blk w2 g vs T) (hg : w.grownBy w2 (some g)) : OwF F w0 w2 (L.set n (g, vs, T)) := by
  obtain ⟨hn, hn2⟩ := List.getElem?_eq_some_iff.1 h
  refine ⟨?_, ?_, ?_, ?_⟩
  · refine O.tch.trans (G := fun k => k = g) (Tch.of_grown1 hg rfl) (fun b hb hlt => ?_)
    subst hb
    rcases O.lie n h with h | h
    · omega
    · exact h
  · intro e he
    obtain ⟨i, hi, rfl⟩ := List.getElem_of_mem he
    rw [List.getElem_set]
    split
    · exact b
    · rename_i hne
      rw [List.length_set] at hi
      have hlt : i < L.length := hi
      refine (O.blk L[i] (List.getElem_mem hlt)).grown hg ?_
      intro e
      injection e with e
      exact O.ne (i := i) (j := n) (List.getElem?_eq_getElem hlt) h (fun e2 => hne e2.symm) e
  · intro e he
    rcases List.mem_or_eq_of_mem_set he with he | rfl
    · exact O.ok e he
    · exact O.lie n h
  · have e : (L.set n (g, vs, T)).map (·.1) = L.map (·.1) := by
      rw [List.map_set]
      apply List.ext_getElem?
      intro i
      rw [List.getElem?_set]
      split
      · rename_i hi
        subst hi
        rw [List.length_map, if_pos hn, List.getElem?_map, List.getElem?_eq_getElem hn, hn2]; rfl
      · rfl
    have h1 : (L.map (·.1)).Pairwise (· ≠ ·) := List.pairwise_map.2 O.nodup
    rw [← e] at h1
    exact List.pairwise_map.1 h1
theorem OwF.tail {e : Nat × List Value × TypeId} (O : OwF F w0 w (e :: L)) : OwF F w0 w L :=
  ⟨O.tch, fun d hd => O.blk d (List.mem_cons_of_mem _ hd), fun d hd => O.ok d (List.mem_cons_of_mem _ hd), O.nodup.tail⟩
theorem OwF.forget (O : OwF F w0 w L) : OwF F w0 w [] := ⟨O.tch, by simp, by simp, List.Pairwise.nil⟩
theorem OwF.perm {L' : List (Nat × List Value × TypeId)} (O : OwF F w0 w L) (h : L.Perm L') : OwF F w0 w L' :=
  ⟨O.tch, fun e he => O.blk e (h.mem_iff.2 he), fun e he => O.ok e (h.mem_iff.2 he), (h.pairwise_iff (fun hab => fun e => hab e.symm)).1 O.nodup⟩
theorem OwF.drewN (O : OwF F w0 w L) (n : Nat) : OwF F w0 (w.drewN n) L := O.call ⟨rfl, rfl, rfl, Nat.le_refl _, fun _ _ _ => rfl⟩
theorem OwF.drew (O : OwF F w0 w L) : OwF F w0 w.drew L := O.call ⟨rfl, rfl, rfl, Nat.le_refl _, fun _ _ _ => rfl⟩
end

section
variable {F : Nat → Prop} {P : Program} {ops : Array Oper} {rest : List Oper} {o : Oper} {a : Act} {w0 w : World} {Q : Exit → Act → World → Prop} {L : List (Nat × List Value × TypeId)}
theorem wpList_of_box (ty : TypeId) (x : Operand) (ho : o.op = .box ty x) (vs : List Value) (hx : a.eval x = .agg vs.toArray) (O : OwF F w0 w L)
    (hgd : Region.wanted o (yielded ops a.tmps) = true) (h : ∀ b w2, OwF F w0 w2 ((b, vs, ty) :: L) → wpList P ops Q rest (a.put o.dst (.pointer (some ⟨b, 0, none⟩))) w2) : wpList P ops Q (o :: rest) a w :=
  wpList_box_as hgd ty x ho vs hx fun w2 b g _ => h _ w2 (O.new b g)
theorem wpList_of_alloc (ty : TypeId) (ho : o.op = .alloc ty) (Z : List Value) (hz : (P.info? ty).map (fun i => i.zero.map (fun v => v.cells)) = some (some Z.toArray)) (O : OwF F w0 w L)
    (hgd : Region.wanted o (yielded ops a.tmps) = true) (h : ∀ b w2, OwF F w0 w2 ((b, Z, ty) :: L) → wpList P ops Q rest (a.put o.dst (.pointer (some ⟨b, 0, none⟩))) w2) : wpList P ops Q (o :: rest) a w :=
  wpList_alloc_as hgd ty ho Z hz fun w2 b g _ => h _ w2 (O.new b g)
theorem wpList_of_part (ty : TypeId) (x : Operand) (ho : o.op = .load ty x) (O : OwF F w0 w L) (n g k : Nat) (hx : a.eval x = .pointer (some ⟨g, k, none⟩)) (cs : List Value) (T : TypeId) (hn : L[n]? = some (g, cs, T))
    (vs : List Value) (d : TypeDesc) (hr : RowAt w g 0 cs → RowAt w g k vs)
    (hu : P.underlying ty = some d) (hd : (match d with | .struct _ | .array _ _ => true | _ => false) = true) (hi : (P.info? ty).map (·.size) = some vs.length)
    (hgd : Region.wanted o (yielded ops a.tmps) = true) (h : wpList P ops Q rest (a.put o.dst (.agg vs.toArray)) w) : wpList P ops Q (o :: rest) a w :=
  wpList_load_part hgd ty x ho g k hx vs d (hr (O.at_ n hn).row) hu hd hi h
theorem wpList_of_whole (ty : TypeId) (x : Operand) (ho : o.op = .load ty x) (O : OwF F w0 w L) (n g : Nat) (hx : a.eval x = .pointer (some ⟨g, 0, none⟩)) (vs : List Value) (T : TypeId) (hn : L[n]? = some (g, vs, T)) (d : TypeDesc)
    (hu : P.underlying ty = some d) (hd : (match d with | .struct _ | .array _ _ => true | _ => false) = true) (hi : (P.info? ty).map (·.size) = some vs.length)
    (hgd : Region.wanted o (yielded ops a.tmps) = true) (h : wpList P ops Q rest (a.put o.dst (.agg vs.toArray)) w) : wpList P ops Q (o :: rest) a w :=
  wpList_load_part hgd ty x ho g 0 hx vs d (O.at_ n hn).row hu hd hi h
theorem wpList_of_cell (ty : TypeId) (x : Operand) (ho : o.op = .load ty x) (O : OwF F w0 w L) (n g k : Nat) (hx : a.eval x = .pointer (some ⟨g, k, none⟩)) (cs : List Value) (T : TypeId) (hn : L[n]? = some (g, cs, T))
    (v : Value) (hv : cs[k]? = some v) (d : TypeDesc) (hu : P.underlying ty = some d) (hd : (match d with | .struct _ | .array _ _ => true | _ => false) = false)
    (hgd : Region.wanted o (yielded ops a.tmps) = true) (h : wpList P ops Q rest (a.put o.dst v) w) : wpList P ops Q (o :: rest) a w := by
  have hc := (O.at_ n hn).row k v hv
  rw [Nat.zero_add] at hc
  refine wpList_wanted hgd fun K hK => ?_
  unfold Oper.wp execOp
  simp only [ho, hx, Instr.loadAt, Instr.sureAddr, Sem.run_bind, Sem.run_pure, Result.andThen_ok, run_loadVar_plain w _ ty d v hu hd hc]
  exact hK _ _ h
/-- out of a block that was there before and is not touched -/
theorem wpList_of_old (ty : TypeId) (x : Operand) (ho : o.op = .load ty x) (g k : Nat) (hx : a.eval x = .pointer (some ⟨g, k, none⟩)) (vs : List Value) (d : TypeDesc) (hr : RowAt w0 g k vs) (hg : ¬ F g) (O : OwF F w0 w L)
    (hu : P.underlying ty = some d) (hd : (match d with | .struct _ | .array _ _ => true | _ => false) = true) (hi : (P.info? ty).map (·.size) = some vs.length)
    (hgd : Region.wanted o (yielded ops a.tmps) = true) (h : wpList P ops Q rest (a.put o.dst (.agg vs.toArray)) w) : wpList P ops Q (o :: rest) a w :=
  wpList_load_part hgd ty x ho g k hx vs d (O.tch.row hr hg) hu hd hi h
theorem wpList_of_store (ty : TypeId) (x y : Operand) (ho : o.op = .store ty x y) (O : OwF F w0 w L) (n g : Nat) (hx : a.eval x = .pointer (some ⟨g, 0, none⟩)) (vs cur : List Value) (T : TypeId) (hn : L[n]? = some (g, cur, T)) (hy : a.eval y = .agg vs.toArray) (hfit : vs.length = cur.length)
    (h1 : ∀ v ∈ vs, v.oneCell' = true) (hi : (P.info? ty).map (·.size) = some vs.length)
    (hgd : Region.wanted o (yielded ops a.tmps) = true) (h : ∀ w2, OwF F w0 w2 (L.set n (g, vs, T)) → wpList P ops Q rest (a.put o.dst undef) w2) : wpList P ops Q (o :: rest) a w :=
  wpList_store_whole hgd ty x y ho g hx vs cur T hy (O.at_ n hn) hfit h1 hi fun w2 g2 _ b2 => h w2 (O.set n hn b2 g2)
theorem wpList_of_store_part (ty : TypeId) (x y : Operand) (ho : o.op = .store ty x y) (O : OwF F w0 w L) (n g k : Nat) (hx : a.eval x = .pointer (some ⟨g, k, none⟩)) (vs cur : List Value) (T : TypeId) (hn : L[n]? = some (g, cur, T)) (hy : a.eval y = .agg vs.toArray) (hfit : k + vs.length ≤ cur.length)
    (h1 : ∀ v ∈ vs, v.oneCell' = true) (hi : (P.info? ty).map (·.size) = some vs.length)
    (hgd : Region.wanted o (yielded ops a.tmps) = true) (h : ∀ w2, OwF F w0 w2 (L.set n (g, cur.take k ++ vs ++ cur.drop (k + vs.length), T)) → wpList P ops Q rest (a.put o.dst undef) w2) : wpList P ops Q (o :: rest) a w :=
  wpList_store_part hgd ty x y ho g k hx vs cur T hy (O.at_ n hn) hfit h1 hi fun w2 g2 _ b2 => h w2 (O.set n hn b2 g2)
theorem wpList_of_store_cell (ty : TypeId) (x y : Operand) (ho : o.op = .store ty x y) (O : OwF F w0 w L) (n g k : Nat) (hx : a.eval x = .pointer (some ⟨g, k, none⟩)) (v : Value) (hy : a.eval y = v) (hv : v.oneCell' = true) (cur : List Value) (T : TypeId) (hn : L[n]? = some (g, cur, T)) (hk : k < cur.length)
    (hi : (P.info? ty).map (·.size) = some 1) (hgd : Region.wanted o (yielded ops a.tmps) = true)
    (h : ∀ w2, OwF F w0 w2 (L.set n (g, cur.set k v, T)) → wpList P ops Q rest (a.put o.dst undef) w2) : wpList P ops Q (o :: rest) a w :=
  wpList_store_cell hgd ty x y ho g k hx v hy hv cur T (O.at_ n hn) hk hi fun w2 g2 _ b2 => h w2 (O.set n hn b2 g2)
end

/-- a slice of n things of k cells each, that reads as xs; its block has the room that the slice tells -/
def SRow (w : World) (e : TypeId) (k : Nat) (v : Value) (n : Nat) (xs : List Value) : Prop :=
  xs.length = n * k ∧ ((v = .slice none 0 0 ∧ n = 0) ∨ ∃ g o cap cur, v = .slice (some ⟨g, o, none⟩) n cap ∧ Blk w g cur e ∧ n ≤ cap ∧ cap ≤ maxLen ∧ o + cap * k ≤ cur.length ∧ (cur.drop o).take (n * k) = xs)
section
variable {w w' : World} {e : TypeId} {k n m g o c B : Nat} {v : Value} {xs : List Value} {G : Nat → Prop}
theorem SRow.nil (w : World) (e : TypeId) (k : Nat) : SRow w e k (.slice none 0 0) 0 [] := ⟨by simp, .inl ⟨rfl, rfl⟩⟩
theorem SRow.of_owns (h : w.ownsRow B e k v n xs) : SRow w e k v n xs := by
  obtain ⟨h0, h | ⟨g, cap, cur, hv, _, hb, h1, h2, h3, h4⟩⟩ := h
  · exact ⟨h0, .inl h⟩
  · exact ⟨h0, .inr ⟨g, 0, cap, cur.toList, hv, by simpa [Blk] using hb, h1, h2, by simp [h3], by simpa using h4⟩⟩
theorem SRow.tch (h : SRow w e k v n xs) (t : Tch G w w') (hG : ∀ b, v.ownBlock = some b → ¬ G b) : SRow w' e k v n xs := by
  obtain ⟨h0, h | ⟨g, o, cap, cur, hv, hb, h1⟩⟩ := h
  · exact ⟨h0, .inl h⟩
  · exact ⟨h0, .inr ⟨g, o, cap, cur, hv, t.blk hb (hG g (by rw [hv]; rfl)), h1⟩⟩
theorem SRow.grown (h : SRow w e k v n xs) (t : w.grownBy w' none) : SRow w' e k v n xs := h.tch (G := fun _ => False) (Tch.of_grown t) (fun _ _ hf => hf)
theorem SRow.len (h : SRow w e k v n xs) : xs.length = n * k := h.1
theorem SRow.shape (h : SRow w e k v n xs) : ∃ a c, v = .slice a n c ∧ n ≤ c ∧ c ≤ maxLen := by
  obtain ⟨_, ⟨hv, hn⟩ | ⟨g, o, cap, cur, hv, _, h1, h2, _⟩⟩ := h
  · subst hn; exact ⟨_, _, hv, Nat.le_refl _, Nat.zero_le _⟩
  · exact ⟨_, _, hv, h1, h2⟩
theorem SRow.lt {b : Nat} (h : SRow w e k v n xs) (hb : v.ownBlock = some b) : b < w.heap.size := by
  obtain ⟨_, ⟨hv, _⟩ | ⟨g, o, cap, cur, hv, h1, _⟩⟩ := h
  · rw [hv] at hb; cases hb
  · rw [hv] at hb; injection hb with hb; subst hb; exact h1.lt
theorem row_cut {cur : List Value} (hb : Blk w g cur e) (o m : Nat) : RowAt w g o ((cur.drop o).take m) := by
  have := hb.row.part o m
  rwa [Nat.zero_add] at this
theorem SRow.row (h : SRow w e k (.slice (some ⟨g, o, none⟩) m c) n xs) : RowAt w g o xs := by
  obtain ⟨_, ⟨hv, _⟩ | ⟨g', o', cap, cur, hv, h1, _, _, _, ht⟩⟩ := h
  · cases hv
  · injection hv with e1 e2 e3
    injection e1 with e1
    injection e1 with e1 e4
    subst e1 e4
    rw [← ht]; exact row_cut h1 _ _
theorem SRow.at_ (h : SRow w e k v n xs) (hn : 0 < n) : ∃ g o c, v = .slice (some ⟨g, o, none⟩) n c ∧ n ≤ c ∧ c ≤ maxLen ∧ g < w.heap.size ∧ RowAt w g o xs := by
  have h' := h
  obtain ⟨_, ⟨_, h0⟩ | ⟨g, o, cap, cur, hv, h1, h2, h3, _⟩⟩ := h
  · omega
  · subst hv; exact ⟨g, o, cap, rfl, h2, h3, h1.lt, h'.row⟩
/-- the first m of them -/
theorem SRow.cut (h : SRow w e k (.slice (some ⟨g, o, none⟩) n c) n xs) (hm : m ≤ n) : SRow w e k (.slice (some ⟨g, o, none⟩) m c) m (xs.take (m * k)) := by
  obtain ⟨h0, ⟨hv, _⟩ | ⟨g', o', cap, cur, hv, h1, h2, h3, h4, ht⟩⟩ := h
  · cases hv
  · injection hv with e1 e2 e3
    injection e1 with e1
    injection e1 with e1 e4
    subst e1 e4 e3
    have hle : m * k ≤ n * k := Nat.mul_le_mul_right _ hm
    refine ⟨by rw [List.length_take, h0]; omega, .inr ⟨g, o, c, cur, rfl, h1, by omega, h3, h4, ?_⟩⟩
    rw [← ht, List.take_take, Nat.min_eq_left hle]
/-- all but the first m -/
theorem SRow.drop (h : SRow w e k (.slice (some ⟨g, o, none⟩) n c) n xs) (hm : m ≤ n) : SRow w e k (.slice (some ⟨g, o + m * k, none⟩) (n - m) (c - m)) (n - m) (xs.drop (m * k)) := by
  obtain ⟨h0, ⟨hv, _⟩ | ⟨g', o', cap, cur, hv, h1, h2, h3, h4, ht⟩⟩ := h
  · cases hv
  · injection hv with e1 e2 e3
    injection e1 with e1
    injection e1 with e1 e4
    subst e1 e4 e3
    have hle : m * k ≤ n * k := Nat.mul_le_mul_right _ hm
    have hle2 : m * k ≤ c * k := Nat.mul_le_mul_right _ (by omega)
    refine ⟨by rw [List.length_drop, h0, Nat.sub_mul], .inr ⟨g, o + m * k, c - m, cur, rfl, h1, by omega, by omega, by rw [Nat.sub_mul]; omega, ?_⟩⟩
    rw [← ht, ← List.drop_drop, List.drop_take, Nat.sub_mul]
end

section
variable {P : Program}
theorem run_append_srow (w : World) (t tx ty e : TypeId) (i : TypeInfo) (z : Value) (size bytes : Nat) (ht : P.underlying t = some (.slice e)) (hi : P.info? e = some i) (hz : i.zero = some z)
    (hsize : i.size = size) (hby : i.bytes = bytes) (hzs : z.cells.size = size)
    (v : Value) (n : Nat) (xs : List Value) (hown : SRow w e size v n xs) (x : Value) (m : Nat) (news : List Value) (hs : Src P size tx x m news w)
    (h63 : n + m ≤ maxLen) (hbytes : (n + m) * bytes ≤ 140737488355328) :
    ∃ v' w', (Builtin.append_ #[t, tx] ty #[v, x]).run P w = .ok v' w' ∧ SRow w' e size v' (n + m) (xs ++ news) ∧ w.grownBy w' v.ownBlock ∧ (v'.ownBlock = v.ownBlock ∨ v'.ownBlock = some w.heap.size) := by
  subst hsize
  subst hby
  have hsmall : n + m ≤ 9223372036854775807 := by simp only [maxLen] at h63; omega
  have hl := hs.newsLen
  have hlen : (xs ++ news).length = (n + m) * i.size := by rw [List.length_append, hown.1, hl, Nat.add_mul]
  have grown : ∀ (old : Nat), old < n + m → ∀ (row : Option Nat),
      SRow (w.drew.alloc (.cells ((xs ++ news).toArray ++ Builtin.zeroCells z.cells (grownCap w (n + m) old e - (n + m))) e)) e i.size
        (.slice (some ⟨w.heap.size, 0, none⟩) (n + m) (grownCap w (n + m) old e)) (n + m) (xs ++ news) ∧
      w.grownBy (w.drew.alloc (.cells ((xs ++ news).toArray ++ Builtin.zeroCells z.cells (grownCap w (n + m) old e - (n + m))) e)) row := by
    intro old ho row
    have hge := grownCap_ge w (n + m) old e
    have hcm : grownCap w (n + m) old e ≤ maxLen := grownCap_le_maxLen w (n + m) old e h63
    refine ⟨SRow.of_owns (B := w.heap.size) ⟨hlen, .inr ⟨w.heap.size, _, _, rfl, Nat.le_refl _, heap_alloc_new w.drew _, hge, hcm, ?_, ?_⟩⟩, ⟨rfl, rfl, rfl, by simp, fun k hk _ => Below.heap_alloc w.drew _ k hk⟩⟩
    · simp only [Array.size_append, List.size_toArray, size_zeroCells, hzs, hlen, ← Nat.add_mul]
      congr 1
      omega
    · simp only [Array.toList_append]
      rw [← hlen]
      exact List.take_left
  rcases hown.2 with ⟨rfl, rfl⟩ | ⟨g, o, cap, cur, rfl, hg, hnc, hcm, hcs, htake⟩
  · have hx : xs = [] := List.eq_nil_of_length_eq_zero (by simpa using hown.1)
    subst hx
    by_cases hm : m = 0
    · subst hm
      have hn : news = [] := List.eq_nil_of_length_eq_zero (by simpa using hl)
      subst hn
      refine ⟨.slice none 0 0, w, ?_, SRow.nil w e i.size, ⟨rfl, rfl, rfl, Nat.le_refl _, fun _ _ _ => rfl⟩, Or.inl rfl⟩
      have hc := hs.cells
      have hll := hs.len
      rcases hs.kind with ⟨e', hk⟩ | hk <;> simp [Builtin.append_, run_underlying ht, run_underlying hk, sizeOf, typeInfo, hi, hll, hc]
    · have hold : (Builtin.firstCells i.size 0 (.slice none 0 0)).run P w.drew = .ok ([] : List Value).toArray w.drew := run_firstCells_none w.drew i.size 0 0 0
      have hr := run_append_grow_src (P := P) w t tx ty e i z ht hi hz none 0 0 [] hold x m news hs (by omega) (by omega) (by
        have hb := hbytes
        rw [Nat.zero_add] at hb ⊢
        exact growslice_fits (by omega) hb)
      have hgr := grown 0 (by omega) (Value.ownBlock (.slice none 0 0))
      exact ⟨_, _, hr, hgr.1, hgr.2, Or.inr rfl⟩
  · by_cases hroom : n + m ≤ cap
    · have hmul : (n + m) * i.size ≤ cap * i.size := Nat.mul_le_mul_right _ hroom
      rw [Nat.add_mul] at hmul
      have hfit : o + n * i.size + news.length ≤ cur.length := by rw [hl]; omega
      have hst := run_storeCells_at (P := P) g (o + n * i.size) e news 0 cur.toArray w hg (by simpa using hfit) hs.one
      simp only [Nat.add_zero] at hst
      have hc := hs.cells
      have hll := hs.len
      have hr : (Builtin.append_ #[t, tx] ty #[.slice (some ⟨g, o, none⟩) n cap, x]).run P w = .ok (.slice (some ⟨g, o, none⟩) (n + m) cap) (w.setRow g (cur.take (o + n * i.size) ++ news ++ cur.drop (o + n * i.size + news.length)).toArray) := by
        rcases hs.kind with ⟨e', hk⟩ | hk <;> simp [Builtin.append_, run_underlying ht, run_underlying hk, sizeOf, typeInfo, hi, hll, hroom, hc, Addr.add_lit, hst]
      refine ⟨_, _, hr, ⟨hlen, .inr ⟨g, o, cap, _, rfl, setRow_heap w g cur.toArray _ e _ hg, hroom, hcm, ?_, ?_⟩⟩, ⟨rfl, rfl, rfl, by simp, fun k _ hk => setRow_other w g k _ (fun e => hk (by simp [Value.ownBlock, e]))⟩, Or.inl rfl⟩
      · simp only [List.length_append, List.length_take, List.length_drop]
        omega
      · have h1 : (cur.take (o + n * i.size)).length = o + n * i.size := by rw [List.length_take]; omega
        rw [List.append_assoc, List.drop_append_of_le_length (by omega), List.drop_take, Nat.add_sub_cancel_left, htake, ← List.append_assoc, ← hlen]
        exact List.take_left
    · have holds : ∀ j u, xs[j]? = some u → w.cell? ((⟨g, o, none⟩ : Addr).add j) = some u := by
        intro j u hj
        rw [addr_add]
        exact hown.row j u hj
      have hold : (Builtin.firstCells i.size n (.slice (some ⟨g, o, none⟩) n cap)).run P w.drew = .ok xs.toArray w.drew := run_firstCells_some w.drew i.size n ⟨g, o, none⟩ n cap xs hown.1 (by simpa using holds)
      have hr := run_append_grow_src (P := P) w t tx ty e i z ht hi hz (some ⟨g, o, none⟩) n cap xs hold x m news hs (by omega) (by omega) (growslice_fits (by omega) hbytes)
      have hgr := grown cap (by omega) (Value.ownBlock (.slice (some ⟨g, o, none⟩) n cap))
      exact ⟨_, _, hr, hgr.1, hgr.2, Or.inr rfl⟩

theorem wp_append_srow (w : World) {o : Oper} {a : Act} {K : Act → World → Prop} {Q : Exit → Act → World → Prop} (s x : Operand) (t tx : TypeId)
    (ho : o.op = .call { callee := .builtin .append, args := #[s, x], argTypes := #[t, tx] })
    (e : TypeId) (z : Value) (size bytes : Nat) (ht : P.underlying t = some (.slice e)) (hi : (P.info? e).map (fun i => (i.zero, i.size, i.bytes)) = some (some z, size, bytes)) (hzs : z.cells.size = size)
    (v : Value) (n : Nat) (xs : List Value) (hs : a.eval s = v) (hown : SRow w e size v n xs) (xv : Value) (m : Nat) (news : List Value) (hx : a.eval x = xv) (hsrc : Src P size tx xv m news w)
    (h63 : n + m ≤ maxLen) (hbytes : (n + m) * bytes ≤ 140737488355328)
    (h : ∀ v' w', SRow w' e size v' (n + m) (xs ++ news) → w.grownBy w' v.ownBlock → (v'.ownBlock = v.ownBlock ∨ v'.ownBlock = some w.heap.size) → K (a.put o.dst v') w') :
    o.wp P a w K Q := by
  obtain ⟨i, hi', hz0, hz1, hz2⟩ := info_parts hi
  obtain ⟨v', w', hr, h2, h3, h4⟩ := run_append_srow (P := P) w t tx o.type e i z size bytes ht hi' hz0 hz1 hz2 hzs v n xs hown xv m news hsrc h63 hbytes
  unfold Oper.wp execOp
  simp only [ho, resolve, invoke, builtin, Sem.run_bind, Sem.run_pure, Result.andThen_ok, List.map_toArray, List.map_cons, List.map_nil, hs, hx, hr]
  exact h v' w' h2 h3 h4
/-- append(v, thing): the thing lies in a new block of its own, w1 is the world behind that -/
theorem wpList_append_one {ops : Array Oper} {rest : List Oper} {o : Oper} {a : Act} {w : World} {Q : Exit → Act → World → Prop} (hgd : Region.wanted o (yielded ops a.tmps) = true) (s x : Operand) (t : TypeId)
    (ho : o.op = .call { callee := .builtin .append, args := #[s, x], argTypes := #[t, t] })
    (e : TypeId) (z : Value) (size bytes : Nat) (ht : P.underlying t = some (.slice e)) (hi : (P.info? e).map (fun i => (i.zero, i.size, i.bytes)) = some (some z, size, bytes)) (hzs : z.cells.size = size)
    (v : Value) (n : Nat) (xs : List Value) (hs : a.eval s = v) (hown : SRow w e size v n xs) (hx : a.eval x = .slice (some ⟨w.heap.size, 0, none⟩) 1 1) (cs : List Value) (hcs : cs.length = size) (h1 : ∀ u ∈ cs, u.oneCell' = true)
    (hn : n ≤ 1000000) (hbytes : bytes ≤ 10000)
    (h : ∀ v' w', SRow w' e size v' (n + 1) (xs ++ cs) → Tch (fun b => v.ownBlock = some b) w w' → (v'.ownBlock = v.ownBlock ∨ ∃ b, v'.ownBlock = some b ∧ w.heap.size ≤ b) → wpList P ops Q rest (a.put o.dst v') w') :
    wpList P ops Q (o :: rest) a (w.alloc (.cells cs.toArray e)) := by
  have hsrc : Src P size t (.slice (some ⟨w.heap.size, 0, none⟩) 1 1) 1 cs (w.alloc (.cells cs.toArray e)) := by
    refine Src.ofSlice _ ht _ 1 1 cs (by rw [hcs, Nat.one_mul]) (fun j u hj => ?_) h1
    rw [addr_add]; exact RowAt_box w cs e j u hj
  refine wpList_wanted hgd fun K hK => wp_append_srow (w.alloc (.cells cs.toArray e)) s x t t ho e z size bytes ht hi hzs v n xs hs (hown.grown (World.grownBy_alloc w _ none)) _ 1 cs hx hsrc (by unfold maxLen; omega) ?_ ?_
  · have : (n + 1) * bytes ≤ 1000001 * 10000 := Nat.mul_le_mul (by omega) hbytes
    omega
  · intro v' w' g1 g2 g3
    refine hK _ _ (h v' w' g1 ?_ ?_)
    · exact (Tch.of_grown (F := fun b => v.ownBlock = some b) (World.grownBy_alloc w (.cells cs.toArray e) none)).trans (G := fun b => v.ownBlock = some b) ⟨g2.os, g2.tape, g2.output, g2.size, fun k hk hf => g2.block k hk (fun e2 => hf e2.symm)⟩ (fun b hb _ => hb)
    · rcases g3 with g3 | g3
      · exact .inl g3
      · exact .inr ⟨_, g3, by simp⟩
end

/-- what the readings find: the operation's number, and what it needs of the world -/
abbrev RdF := List (Nat × (World → Prop))
section
variable {P : Program} {ops : Array Oper} {Q : Exit → Act → World → Prop} {md : Region.Mode} {K : RdF} {eff : List Nat}
/-- does j wait for k, by an edge of its own? -/
def waits (md : Region.Mode) (ops : Array Oper) (j k : Nat) : Bool := match ops[j]? with
  | some o => o.after.any fun e => Region.binds md e && e.on == k
  | none => false
/-- behind j: a thing that is done leaves what it has not waited for; any other operation leaves all -/
def Kept (md : Region.Mode) (ops : Array Oper) (K : RdF) (eff : List Nat) (j : Nat) (w w' : World) : Prop :=
  if eff.contains j then ∀ e ∈ K, waits md ops j e.1 = false → e.2 w' else w' = w
def wpAnyJ (P : Program) (md : Region.Mode) (ops : Array Oper) (Q : Exit → Act → World → Prop) (K : RdF) (eff : List Nat) : Nat → Array Bool → Act → World → Prop
  | 0, listed, a, w => Region.ready md ops listed = [] ∧ Q .normal a w
  | fuel + 1, listed, a, w =>
    (Region.ready md ops listed = [] → Q .normal a w) ∧
    ∀ i ∈ Region.ready md ops listed, wpOp P ops Q i (fun a' w' => Kept md ops K eff i w w' ∧ wpAnyJ P md ops Q K eff fuel (listed.setIfInBounds i true) a' w') a w
theorem wpAny_of_J : ∀ (fuel : Nat) (listed : Array Bool) (a : Act) (w : World), wpAnyJ P md ops Q K eff fuel listed a w → wpAny P md ops Q fuel listed a w
  | 0, _, _, _, h => h
  | fuel + 1, _, _, _, h => ⟨h.1, fun i hi => wpOp_mono (fun a' w' h' => wpAny_of_J fuel _ a' w' h'.2) (h.2 i hi)⟩
theorem waits_no {j k : Nat} {oj : Oper} (hj : ops[j]? = some oj) (h : ∀ e ∈ oj.after, Region.binds md e = true → e.on ≠ k) : waits md ops j k = false := by
  unfold waits
  rw [hj]
  cases hq : oj.after.any fun e => Region.binds md e && e.on == k with
  | false => exact hq
  | true =>
    rw [Array.any_eq_true] at hq
    obtain ⟨n, hn, hb⟩ := hq
    simp only [Bool.and_eq_true, beq_iff_eq] at hb
    exact absurd hb.2 (h _ (Array.getElem_mem hn) hb.1)
/-- what is still to be read finds its fact -/
def Still (K : RdF) (listed : Array Bool) (w : World) : Prop := ∀ e ∈ K, listed.getD e.1 false = false → e.2 w
theorem Still.all {listed : Array Bool} {w : World} (h : ∀ e ∈ K, e.2 w) : Still K listed w := fun e he _ => h e he
theorem Still.none {listed : Array Bool} {w : World} (h : (K.map (·.1)).all (fun k => listed.getD k false) = true) : Still K listed w := fun e he hw => by
  have := List.all_eq_true.1 h e.1 (List.mem_map_of_mem he)
  rw [this] at hw; cases hw
/-- what is read may be taken first -/
theorem wpAnyJ_first {i : Nat} {oi : Oper} {v : Value} {F : World → Prop} (hi : ops[i]? = some oi) (hsel : ∀ (j : Nat) (o : Oper) cs b, ops[j]? = some o → o.op ≠ .select cs b)
    (hQ : ∀ c a w, Q (.panic c) (a.put oi.dst v) w → Q (.panic c) a w) (he : eff.contains i = false) (hF : ∀ listed w, listed.getD i false = false → Still K listed w → F w) :
    ∀ (fuel : Nat) (listed : Array Bool) (a : Act) (w : World),
      (∀ j oj, ops[j]? = some oj → j ≠ i → listed.getD j true = false → (∀ e ∈ oj.after, Region.binds md e = true → e.on ≠ i) → oi.apart ops oj = true) →
      i ∈ Region.ready md ops listed → YieldsIf P ops F oi v a → Still K listed w →
      wpAnyJ P md ops Q K eff fuel (listed.setIfInBounds i true) (a.put oi.dst v) w → wpAnyJ P md ops Q K eff (fuel + 1) listed a w := by
  have un : ∀ (listed : Array Bool), i ∈ Region.ready md ops listed → listed.getD i false = false := fun listed hr => by
    have h0 := (mem_ready.1 hr).1
    rcases Nat.lt_or_ge i listed.size with h' | h'
    · simp [h'] at h0 ⊢; exact h0
    · simp [Array.getElem?_eq_none h'] at h0
  have kp : ∀ w : World, Kept md ops K eff i w w := fun w => by unfold Kept; rw [he]; rfl
  intro fuel
  induction fuel with
  | zero =>
    intro listed a w _ hr hy hS H
    refine ⟨fun h => (by rw [h] at hr; cases hr), fun j hj => ?_⟩
    by_cases hji : j = i
    · subst hji; exact hy.wpOp hi (hF _ _ (un _ hr) hS) ⟨kp w, H⟩
    · have := ready_mono hj hji
      rw [H.1] at this
      cases this
  | succ fuel ih =>
    intro listed a w hfree hr hy hS H
    refine ⟨fun h => (by rw [h] at hr; cases hr), fun j hj => ?_⟩
    by_cases hji : j = i
    · subst hji; exact hy.wpOp hi (hF _ _ (un _ hr) hS) ⟨kp w, H⟩
    · have h1 := H.2 j (ready_mono hj hji)
      obtain ⟨hjun, oj, hoj, hall⟩ := mem_ready.1 hj
      have hon : ∀ k, listed.getD k false = false → ∀ e ∈ oj.after, Region.binds md e = true → e.on ≠ k := fun k hk e he hb heq => by
        have h1 := hall e he hb
        rw [heq] at h1
        rcases Nat.lt_or_ge k listed.size with h' | h'
        · simp [h'] at hk h1; rw [hk] at h1; cases h1
        · simp [Array.getElem?_eq_none h'] at h1
      have hnot := hon i (un _ hr)
      have h2 := wpOp_putIf hoj (hfree j oj hoj hji hjun hnot) (fun cs b => hsel i oi cs b hi) (fun cs b => hsel j oj cs b hoj) hQ hy h1
      have hfree' : ∀ k ok, ops[k]? = some ok → k ≠ i → (listed.setIfInBounds j true).getD k true = false →
          (∀ e ∈ ok.after, Region.binds md e = true → e.on ≠ i) → oi.apart ops ok = true := fun k ok hk hki hun hno => by
        refine hfree k ok hk hki ?_ hno
        by_cases hjk : j = k
        · subst hjk; exact hjun
        · rw [getD_set_ne true hjk] at hun; exact hun
      have hst : ∀ w', Kept md ops K eff j w w' → Still K (listed.setIfInBounds j true) w' := fun w' hk e he2 hu => by
        by_cases hje : j = e.1
        · subst hje
          have hlt : e.1 < listed.size := by
            rcases Nat.lt_or_ge e.1 listed.size with h' | h'
            · exact h'
            · simp [Array.getElem?_eq_none h'] at hjun
          simp [hlt] at hu
        rw [getD_set_ne false hje] at hu
        unfold Kept at hk
        split at hk
        · exact hk e he2 (waits_no hoj (hon e.1 hu))
        · rw [hk]; exact hS e he2 hu
      refine wpOp_mono (fun a' w' h3 => ⟨h3.2.1, ih (listed.setIfInBounds j true) a' w' hfree' (ready_mono hr (Ne.symm hji)) h3.1 (hst w' h3.2.1) ?_⟩) h2
      rw [Array.setIfInBounds_comm _ _ hji]
      exact h3.2.2
/-- an operation that reads nothing of the world -/
theorem wpAnyJ_pure {i : Nat} {oi : Oper} {v : Value} {fuel : Nat} {listed : Array Bool} {a : Act} {w : World} (hi : ops[i]? = some oi)
    (hs : Region.noSelect ops = true) (hf : Region.free md ops listed i = true) (hr : (Region.ready md ops listed).contains i = true)
    (hQ : ∀ c a w, Q (.panic c) (a.put oi.dst v) w → Q (.panic c) a w) (he : eff.contains i = false) (hy : YieldsIf P ops (fun _ => True) oi v a) (hS : Still K listed w)
    (h : wpAnyJ P md ops Q K eff fuel (listed.setIfInBounds i true) (a.put oi.dst v) w) : wpAnyJ P md ops Q K eff (fuel + 1) listed a w :=
  wpAnyJ_first hi (Region.noSelect_spec hs) hQ he (fun _ _ _ _ => trivial) fuel listed a w (Region.free_spec hi hf) (by simpa using hr) hy hS h
/-- a reading: its fact is number n of K -/
theorem wpAnyJ_read (n : Nat) {i : Nat} {oi : Oper} {v : Value} {F : World → Prop} {fuel : Nat} {listed : Array Bool} {a : Act} {w : World} (hi : ops[i]? = some oi) (hn : K[n]? = some (i, F))
    (hs : Region.noSelect ops = true) (hf : Region.free md ops listed i = true) (hr : (Region.ready md ops listed).contains i = true)
    (hQ : ∀ c a w, Q (.panic c) (a.put oi.dst v) w → Q (.panic c) a w) (he : eff.contains i = false) (hy : YieldsIf P ops F oi v a) (hS : Still K listed w)
    (h : wpAnyJ P md ops Q K eff fuel (listed.setIfInBounds i true) (a.put oi.dst v) w) : wpAnyJ P md ops Q K eff (fuel + 1) listed a w :=
  wpAnyJ_first hi (Region.noSelect_spec hs) hQ he (fun _ _ hl hS => hS _ (List.mem_of_getElem? hn) hl) fuel listed a w (Region.free_spec hi hf) (by simpa using hr) hy hS h
/-- what both ask of the region's text -/
def jOk (md : Region.Mode) (ops : Array Oper) (eff : List Nat) (listed : Array Bool) (i : Nat) : Bool := Region.noSelect ops && (Region.free md ops listed i && ((Region.ready md ops listed).contains i && !eff.contains i))
theorem jOk_parts {listed : Array Bool} {i : Nat} (h : jOk md ops eff listed i = true) : Region.noSelect ops = true ∧ Region.free md ops listed i = true ∧ (Region.ready md ops listed).contains i = true ∧ eff.contains i = false := by
  unfold jOk at h
  simp only [Bool.and_eq_true, Bool.not_eq_true'] at h
  exact h
theorem jp (i : Nat) (v : Value) {oi : Oper} {fuel : Nat} {listed : Array Bool} {a : Act} {w : World} (hS : Still K listed w) (h : wpAnyJ P md ops Q K eff fuel (listed.setIfInBounds i true) (a.put oi.dst v) w)
    (hi : ops[i]? = some oi := by rfl) (hk : jOk md ops eff listed i = true := by kernel_rfl) (hQ : ∀ c a w, Q (.panic c) (a.put oi.dst v) w → Q (.panic c) a w := by exact fun _ _ _ h => h)
    (hy : YieldsIf P ops (fun _ => True) oi v a := by exact Or.inl ⟨by rfl, fun W _ => by go_simp⟩) : wpAnyJ P md ops Q K eff (fuel + 1) listed a w :=
  wpAnyJ_pure hi (jOk_parts hk).1 (jOk_parts hk).2.1 (jOk_parts hk).2.2.1 hQ (jOk_parts hk).2.2.2 hy hS h
theorem jr (n i : Nat) (v : Value) {oi : Oper} {F : World → Prop} {fuel : Nat} {listed : Array Bool} {a : Act} {w : World} (hi : ops[i]? = some oi) (hn : K[n]? = some (i, F)) (hy : YieldsIf P ops F oi v a) (hS : Still K listed w) (h : wpAnyJ P md ops Q K eff fuel (listed.setIfInBounds i true) (a.put oi.dst v) w)
    (hk : jOk md ops eff listed i = true := by kernel_rfl) (hQ : ∀ c a w, Q (.panic c) (a.put oi.dst v) w → Q (.panic c) a w := by exact fun _ _ _ h => h) : wpAnyJ P md ops Q K eff (fuel + 1) listed a w :=
  wpAnyJ_read n hi hn (jOk_parts hk).1 (jOk_parts hk).2.1 (jOk_parts hk).2.2.1 hQ (jOk_parts hk).2.2.2 hy hS h
theorem jq1 {α : Type} {l : List α} {i : Nat} (h : i < l.toArray.size) : l.toArray[i] = l[i]'(by simpa using h) := rfl
theorem jq2 {α : Type} (a : α) (l : List α) (i : Nat) (h : i + 1 < (a :: l).length) : (a :: l)[i + 1] = l[i]'(Nat.lt_of_succ_lt_succ h) := rfl
theorem jq3 {α : Type} (a : α) (l : List α) (h : 0 < (a :: l).length) : (a :: l)[0] = a := rfl
theorem jq4 {α : Type} (l : List α) (i : Nat) (a : α) : l.toArray.setIfInBounds i a = (l.set i a).toArray := List.setIfInBounds_toArray l i a
theorem jq5 {α : Type} (a b : α) (l : List α) : (a :: l).set 0 b = b :: l := rfl
theorem jq6 {α : Type} (a b : α) (l : List α) (i : Nat) : (a :: l).set (i + 1) b = a :: l.set i b := rfl
def AllJ (P : Program) (md : Region.Mode) (ops : Array Oper) (Q : Exit → Act → World → Prop) (K : RdF) (eff : List Nat) (fuel : Nat) (listed : Array Bool) (a : Act) (w : World) (rs : List Nat) : Prop :=
  ∀ i ∈ rs, wpOp P ops Q i (fun a' w' => Kept md ops K eff i w w' ∧ wpAnyJ P md ops Q K eff fuel (listed.setIfInBounds i true) a' w') a w
theorem AllJ.nil {fuel : Nat} {listed : Array Bool} {a : Act} {w : World} : AllJ P md ops Q K eff fuel listed a w [] := fun _ h => by cases h
/-- something that is done, which leaves all that is read as it was -/
theorem AllJ.keep {fuel : Nat} {listed : Array Bool} {a : Act} {w : World} {i : Nat} {o : Oper} {rs : List Nat} (ho : ops[i]? = some o) (hw : Region.wanted o (yielded ops a.tmps) = true) (he : eff.contains i = true)
    (h : ∀ K' : Act → World → Prop, Shut (∀ a w, (∀ e ∈ K, e.2 w) → wpAnyJ P md ops Q K eff fuel (listed.setIfInBounds i true) a w → K' a w) → Oper.wp P o a w K' Q)
    (hs : AllJ P md ops Q K eff fuel listed a w rs) : AllJ P md ops Q K eff fuel listed a w (i :: rs) := fun j hj => by
  rcases List.mem_cons.1 hj with rfl | hj
  · exact wpOp_step ho (fun K' hK => by rw [if_pos hw]; exact h K' (fun a w h1 h2 => hK a w ⟨by unfold Kept; rw [if_pos he]; exact fun e he _ => h1 e he, h2⟩))
  · exact hs j hj
/-- something that is done, which waits for some of what is read -/
theorem AllJ.turn {fuel : Nat} {listed : Array Bool} {a : Act} {w : World} {i : Nat} {o : Oper} {rs : List Nat} (ho : ops[i]? = some o) (hw : Region.wanted o (yielded ops a.tmps) = true) (he : eff.contains i = true)
    (h : ∀ K' : Act → World → Prop, Shut (∀ a w, (∀ e ∈ K, waits md ops i e.1 = false → e.2 w) → wpAnyJ P md ops Q K eff fuel (listed.setIfInBounds i true) a w → K' a w) → Oper.wp P o a w K' Q)
    (hs : AllJ P md ops Q K eff fuel listed a w rs) : AllJ P md ops Q K eff fuel listed a w (i :: rs) := fun j hj => by
  rcases List.mem_cons.1 hj with rfl | hj
  · exact wpOp_step ho (fun K' hK => by rw [if_pos hw]; exact h K' (fun a w h1 h2 => hK a w ⟨by unfold Kept; rw [if_pos he]; exact h1, h2⟩))
  · exact hs j hj
theorem waits_all {i : Nat} {w : World} (h : (K.map (·.1)).all (waits md ops i) = true) : ∀ e ∈ K, waits md ops i e.1 = false → e.2 w := fun e he hw => by
  have := List.all_eq_true.1 h e.1 (List.mem_map_of_mem he)
  rw [this] at hw; cases hw
theorem wpAnyJ_ready {rs : List Nat} {fuel : Nat} {listed : Array Bool} {a : Act} {w : World} (hr : Region.ready md ops listed = rs) (hne : rs ≠ [])
    (h : AllJ P md ops Q K eff fuel listed a w rs) : wpAnyJ P md ops Q K eff (fuel + 1) listed a w := ⟨fun h0 => absurd (hr ▸ h0) hne, hr ▸ h⟩
theorem wpAnyJ_done {listed : Array Bool} {a : Act} {w : World} (hr : Region.ready md ops listed = []) (h : Q .normal a w) :
    ∀ fuel, wpAnyJ P md ops Q K eff fuel listed a w
  | 0 => ⟨hr, h⟩
  | _ + 1 => ⟨fun _ => h, by rw [hr]; simp⟩
theorem wp_region_J (K : RdF) (eff : List Nat) {id : Nat} {a : Act} {w : World} (hm : P.follows .mixedOrders = true) (hF : ∀ e ∈ K, e.2 w.drew)
    (h : (∀ e ∈ K, e.2 w.drew) → wpAnyJ P .any ops Q K eff ops.size (Array.replicate ops.size false) a w.drew) : (Code.region id ops true).wp P Q a w :=
  wp_region_any hm (wpAny_of_J _ _ _ _ (h hF))
end

/-! what is read, as rows: the operation, the block, the place, the cells -/
abbrev RdR := List (Nat × Nat × Nat × List Value)
def rdf (R : RdR) : RdF := R.map fun e => (e.1, fun W => RowAt W e.2.1 e.2.2.1 e.2.2.2)
def RdA (R : RdR) (w : World) : Prop := ∀ e ∈ rdf R, e.2 w
section
variable {R : RdR} {w w2 : World} {G : Nat → Prop}
theorem rda_iff : RdA R w ↔ ∀ e ∈ R, RowAt w e.2.1 e.2.2.1 e.2.2.2 := by
  unfold RdA rdf
  constructor
  · intro h e he; exact h _ (List.mem_map_of_mem he)
  · intro h e he
    obtain ⟨d, hd, rfl⟩ := List.mem_map.1 he
    exact h d hd
theorem RdA.nil : RdA [] w := by intro e he; cases he
theorem RdA.cons {i g k : Nat} {vs : List Value} (h : RowAt w g k vs) (hs : RdA R w) : RdA ((i, g, k, vs) :: R) w := by
  rw [rda_iff] at *
  intro e he
  rcases List.mem_cons.1 he with rfl | he
  · exact h
  · exact hs e he
theorem RdA.grown (h : RdA R w) (g : w.grownBy w2 none) : RdA R w2 := by
  rw [rda_iff] at *
  exact fun e he => (h e he).grown g (by simp)
theorem RdA.tch (h : RdA R w) (t : Tch G w w2) (hG : ∀ e ∈ R, ¬ G e.2.1) : RdA R w2 := by
  rw [rda_iff] at *
  exact fun e he => t.row (h e he) (hG e he)
theorem RowAt.one {g k : Nat} {v : Value} (h : w.cell? ⟨g, k, none⟩ = some v) : RowAt w g k [v] := by
  intro j u hj
  cases j with
  | zero => simp only [List.getElem?_cons_zero, Option.some.injEq] at hj; rw [← hj]; exact h
  | succ j => simp at hj
theorem RowAt.at_one {g k : Nat} {v : Value} (h : RowAt w g k [v]) : w.cell? ⟨g, k, none⟩ = some v := h 0 v rfl
theorem OwF.cellr {F : Nat → Prop} {w0 : World} {L : List (Nat × List Value × TypeId)} {g n k : Nat} {cs : List Value} {T : TypeId} {v : Value} (O : OwF F w0 w L) (h : L[n]? = some (g, cs, T)) (hv : cs[k]? = some v) : RowAt w g k [v] := by
  have := (O.at_ n h).row k v hv
  rw [Nat.zero_add] at this
  exact RowAt.one this
end
section
variable {P : Program} {ops : Array Oper} {F : World → Prop} {o : Oper} {a : Act}
theorem yields_cell (hgd : Region.wanted o (yielded ops a.tmps) = true) (ty : TypeId) (x : Operand) (ho : o.op = .load ty x) (g k : Nat) (hx : a.eval x = .pointer (some ⟨g, k, none⟩)) (v : Value) (d : TypeDesc) (hr : ∀ W, F W → RowAt W g k [v])
    (hu : P.underlying ty = some d) (hd : (match d with | .struct _ | .array _ _ => true | _ => false) = false) : YieldsIf P ops F o v a := by
  refine Or.inl ⟨hgd, fun W hW => ?_⟩
  unfold execOp
  simp only [ho, hx, Instr.loadAt, Instr.sureAddr, Sem.run_bind, Sem.run_pure, Result.andThen_ok, run_loadVar_plain W _ ty d v hu hd (hr W hW).at_one]
end

/-! things that are done -/
section
variable {P : Program} {o : Oper} {a : Act} {w0 w : World} {K : Act → World → Prop} {Q : Exit → Act → World → Prop} {F : Nat → Prop} {L : List (Nat × List Value × TypeId)}
theorem wp_of_alloc (ty : TypeId) (ho : o.op = .alloc ty) (Z : List Value) (hz : (P.info? ty).map (fun i => i.zero.map (fun v => v.cells)) = some (some Z.toArray)) (O : OwF F w0 w L)
    (h : ∀ b w2, w.grownBy w2 none → OwF F w0 w2 ((b, Z, ty) :: L) → K (a.put o.dst (.pointer (some ⟨b, 0, none⟩))) w2) : o.wp P a w K Q :=
  wp_alloc_as ty ho Z hz fun w2 b g _ => h _ w2 g (O.new b g)
theorem wp_of_store (ty : TypeId) (x y : Operand) (ho : o.op = .store ty x y) (O : OwF F w0 w L) (n g : Nat) (hx : a.eval x = .pointer (some ⟨g, 0, none⟩)) (vs cur : List Value) (T : TypeId) (hn : L[n]? = some (g, cur, T)) (hy : a.eval y = .agg vs.toArray) (hfit : vs.length = cur.length)
    (h1 : ∀ v ∈ vs, v.oneCell' = true) (hi : (P.info? ty).map (·.size) = some vs.length)
    (h : ∀ w2, OwF F w0 w2 (L.set n (g, vs, T)) → K (a.put o.dst undef) w2) : o.wp P a w K Q :=
  wp_store_whole ty x y ho g hx vs cur T hy (O.at_ n hn) hfit h1 hi fun w2 g2 _ b2 => h w2 (O.set n hn b2 g2)
theorem wp_of_store_cell (ty : TypeId) (x y : Operand) (ho : o.op = .store ty x y) (O : OwF F w0 w L) (n g k : Nat) (hx : a.eval x = .pointer (some ⟨g, k, none⟩)) (v : Value) (hy : a.eval y = v) (hv : v.oneCell' = true) (cur : List Value) (T : TypeId) (hn : L[n]? = some (g, cur, T)) (hk : k < cur.length)
    (hi : (P.info? ty).map (·.size) = some 1) (h : ∀ w2, OwF F w0 w2 (L.set n (g, cur.set k v, T)) → K (a.put o.dst undef) w2) : o.wp P a w K Q :=
  wp_store_cell ty x y ho g k hx v hy hv cur T (O.at_ n hn) hk hi fun w2 g2 _ b2 => h w2 (O.set n hn b2 g2)
theorem wp_of_box (ty : TypeId) (x : Operand) (ho : o.op = .box ty x) (vs : List Value) (hx : a.eval x = .agg vs.toArray) (O : OwF F w0 w L)
    (h : ∀ b w2, w.grownBy w2 none → OwF F w0 w2 ((b, vs, ty) :: L) → K (a.put o.dst (.pointer (some ⟨b, 0, none⟩))) w2) : o.wp P a w K Q := by
  have hrun : (Instr.box ty (.agg vs.toArray)).run P w = .ok (.pointer (some ⟨w.heap.size, 0, none⟩)) (w.alloc (.cells vs.toArray ty)) := by
    simp [Instr.box, newVar, newRow, Value.cells]
  unfold Oper.wp execOp
  simp only [ho, hx, Sem.run_bind, Sem.run_pure, Result.andThen_ok, hrun]
  exact h _ _ (World.grownBy_alloc w _ none) (O.new (Blk.new w vs ty) (World.grownBy_alloc w _ none))
theorem wp_of_slice1 (t : TypeId) (x : Operand) (ho : o.op = .buildSlice t 1 #[(0, x)]) (cs : List Value) (hx : a.eval x = .agg cs.toArray) (e : TypeId) (z : Value) (size : Nat) (ht : P.underlying t = some (.slice e)) (hi : (P.info? e).map (fun i => (i.zero, i.size)) = some (some z, size)) (h1 : cs.length = size) (hn : size ≤ 16777216)
    (O : OwF F w0 w L) (h : ∀ b w2, w.grownBy w2 none → OwF F w0 w2 ((b, cs, e) :: L) → K (a.put o.dst (.slice (some ⟨b, 0, none⟩) 1 1)) w2) : o.wp P a w K Q := by
  cases hq : P.info? e with
  | none => simp [hq] at hi
  | some i =>
    have hi' : i.zero = some z ∧ i.size = size := by simpa [hq] using hi
    have hr := run_buildSlice_all (P := P) w t e i z size ht hq hi'.1 hi'.2 [.agg cs.toArray] (by simpa [Value.cells] using h1) (by simpa using hn)
    have hf : flatCells [.agg cs.toArray] = cs := by simp [flatCells, Value.cells]
    rw [hf] at hr
    unfold Oper.wp execOp
    have hv' : (#[(0, x)].map fun ((i : Nat), x) => (i, a.eval x)) = (([(.agg cs.toArray : Value)].zipIdx 0).map fun x => (x.2, x.1)).toArray := by simp [hx]
    simp only [ho, hv', Sem.run_bind]
    rw [show (1 : Nat) = [(.agg cs.toArray : Value)].length from rfl, hr]
    simp only [Result.andThen_ok]
    exact h _ _ (World.grownBy_alloc w _ none) (O.new (Blk.new w cs e) (World.grownBy_alloc w _ none))
/-- append(v, thing); the thing lies in block g -/
theorem wp_of_app (s x : Operand) (t : TypeId) (ho : o.op = .call { callee := .builtin .append, args := #[s, x], argTypes := #[t, t] })
    (e : TypeId) (z : Value) (size bytes : Nat) (ht : P.underlying t = some (.slice e)) (hi : (P.info? e).map (fun i => (i.zero, i.size, i.bytes)) = some (some z, size, bytes)) (hzs : z.cells.size = size)
    (v : Value) (n : Nat) (xs : List Value) (hs : a.eval s = v) (hown : SRow w e size v n xs) (g : Nat) (hx : a.eval x = .slice (some ⟨g, 0, none⟩) 1 1) (cs : List Value) (hr : RowAt w g 0 cs) (hcs : cs.length = size) (h1 : ∀ u ∈ cs, u.oneCell' = true)
    (hn : n ≤ 1000000) (hbytes : bytes ≤ 10000)
    (h : ∀ v' w', SRow w' e size v' (n + 1) (xs ++ cs) → Tch (fun b => v.ownBlock = some b) w w' → (v'.ownBlock = v.ownBlock ∨ ∃ b, v'.ownBlock = some b ∧ w.heap.size ≤ b) → K (a.put o.dst v') w') : o.wp P a w K Q := by
  have hsrc : Src P size t (.slice (some ⟨g, 0, none⟩) 1 1) 1 cs w := by
    refine Src.ofSlice _ ht _ 1 1 cs (by rw [hcs, Nat.one_mul]) (fun j u hj => ?_) h1
    rw [addr_add]; exact hr j u hj
  refine wp_append_srow w s x t t ho e z size bytes ht hi hzs v n xs hs hown _ 1 cs hx hsrc (by unfold maxLen; omega) ?_ ?_
  · have : (n + 1) * bytes ≤ 1000001 * 10000 := Nat.mul_le_mul (by omega) hbytes
    omega
  · intro v' w' g1 g2 g3
    refine h v' w' g1 ⟨g2.os, g2.tape, g2.output, g2.size, fun k hk hf => g2.block k hk (fun e2 => hf e2.symm)⟩ ?_
    rcases g3 with g3 | g3
    · exact .inl g3
    · exact .inr ⟨_, g3, Nat.le_refl _⟩
end
section
variable {P : Program} {ops : Array Oper} {rest : List Oper} {o : Oper} {a : Act} {w0 w : World} {Q : Exit → Act → World → Prop} {F : Nat → Prop} {L : List (Nat × List Value × TypeId)}
theorem wpList_of_slice1 (t : TypeId) (x : Operand) (ho : o.op = .buildSlice t 1 #[(0, x)]) (cs : List Value) (hx : a.eval x = .agg cs.toArray) (e : TypeId) (z : Value) (size : Nat) (ht : P.underlying t = some (.slice e)) (hi : (P.info? e).map (fun i => (i.zero, i.size)) = some (some z, size)) (h1 : cs.length = size) (hn : size ≤ 16777216)
    (O : OwF F w0 w L) (hgd : Region.wanted o (yielded ops a.tmps) = true) (h : ∀ b w2, OwF F w0 w2 ((b, cs, e) :: L) → wpList P ops Q rest (a.put o.dst (.slice (some ⟨b, 0, none⟩) 1 1)) w2) : wpList P ops Q (o :: rest) a w :=
  wpList_wanted hgd fun _ hK => wp_of_slice1 t x ho cs hx e z size ht hi h1 hn O fun b w2 _ h2 => hK _ _ (h b w2 h2)
theorem wpList_of_app (s x : Operand) (t : TypeId) (ho : o.op = .call { callee := .builtin .append, args := #[s, x], argTypes := #[t, t] })
    (e : TypeId) (z : Value) (size bytes : Nat) (ht : P.underlying t = some (.slice e)) (hi : (P.info? e).map (fun i => (i.zero, i.size, i.bytes)) = some (some z, size, bytes)) (hzs : z.cells.size = size)
    (v : Value) (n : Nat) (xs : List Value) (hs : a.eval s = v) (hown : SRow w e size v n xs) (g : Nat) (hx : a.eval x = .slice (some ⟨g, 0, none⟩) 1 1) (cs : List Value) (hr : RowAt w g 0 cs) (hcs : cs.length = size) (h1 : ∀ u ∈ cs, u.oneCell' = true)
    (hn : n ≤ 1000000) (hbytes : bytes ≤ 10000) (hgd : Region.wanted o (yielded ops a.tmps) = true)
    (h : ∀ v' w', SRow w' e size v' (n + 1) (xs ++ cs) → Tch (fun b => v.ownBlock = some b) w w' → (v'.ownBlock = v.ownBlock ∨ ∃ b, v'.ownBlock = some b ∧ w.heap.size ≤ b) → wpList P ops Q rest (a.put o.dst v') w') : wpList P ops Q (o :: rest) a w :=
  wpList_wanted hgd fun _ hK => wp_of_app s x t ho e z size bytes ht hi hzs v n xs hs hown g hx cs hr hcs h1 hn hbytes fun v' w' h1 h2 h3 => hK _ _ (h v' w' h1 h2 h3)
end

section
variable {F : Nat → Prop} {w0 u w : World} {L : List (Nat × List Value × TypeId)} {S : Nat}
/-- the same blocks, from here on: only they, all below S, are touched -/
theorem OwF.again (O : OwF F w0 w L) (h : ∀ e ∈ L, e.1 < S) : OwF (fun b => (w0.heap.size ≤ b ∨ F b) ∧ b < S) w w L := ⟨Tch.refl _ _, O.blk, fun e he => .inr ⟨O.ok e he, h e he⟩, O.nodup⟩
theorem Tch.join (h : Tch F w0 u) (k : Tch (fun b => (w0.heap.size ≤ b ∨ F b) ∧ b < S) u w) : Tch F w0 w := h.trans k (fun b hb hlt => hb.1.resolve_left (by omega))
end

end Go.Proofs.YtcbkehnlgpcelaaGreatDoor
