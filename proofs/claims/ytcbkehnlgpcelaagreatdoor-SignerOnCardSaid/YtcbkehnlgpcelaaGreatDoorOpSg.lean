/- What comes in: asks of nunciolaw13's scripts; a secret. -/
import Derived.Test.YtcbkehnlgpcelaaGreatDoorOpenH
import Derived.Test.YtcbkehnlgpcelaaGreatDoorSg10
namespace Go.Proofs.YtcbkehnlgpcelaaGreatDoor
open Go.RowKit Go.ChangeShapes Go.WideShapes
set_option maxRecDepth 100000

theorem row_ofS {D : Type} {f : D → List Value} {k : Nat} {w : World} {g : Nat} : ∀ (l : List D) (o : Nat), (∀ d ∈ l, (f d).length = k) → (∀ i (h : i < l.length), RowAt w g (o + i * k) (f l[i])) → RowAt w g o (l.flatMap f)
  | [], o, _, _ => by intro j v hj; simp at hj
  | x :: l, o, hk, h => by
    have h0 := h 0 (by simp)
    rw [Nat.zero_mul, Nat.add_zero] at h0
    have hr := row_ofS l (o + k) (fun d hd => hk d (by simp [hd])) (fun i hi => by
      have := h (i + 1) (by simpa using hi)
      rwa [show o + (i + 1) * k = o + k + i * k by rw [Nat.add_mul]; omega] at this)
    have hx := hk x (by simp)
    intro j v hj
    rw [List.flatMap_cons] at hj
    by_cases hjk : j < k
    · rw [List.getElem?_append_left (by rw [hx]; exact hjk)] at hj
      exact h0 j v hj
    · rw [List.getElem?_append_right (by rw [hx]; omega), hx] at hj
      have := hr (j - k) v hj
      rwa [show o + k + (j - k) = o + j by omega] at this
section
variable {H : Type} {enc : TypeId × Value → H} {W : World} {base b : Nat} {sp : Nat → Bool} {held : Bool}
theorem s_u8 : Tryz.prog.cellsOf 5 = 1 := by kernel_rfl
theorem s_hash : Tryz.prog.cellsOf 26 = 32 := by kernel_rfl
theorem s_int : Tryz.prog.cellsOf 3 = 1 := by kernel_rfl
theorem s_vt : Tryz.prog.cellsOf 24 = 1 := by kernel_rfl
theorem s_bs : Tryz.prog.cellsOf 27 = 1 := by kernel_rfl
theorem hash_trodS {fuel : Nat} {cs : List Value} {x : DataW H × List MemPlace} (h : DataW.trod enc Tryz.prog W b sp held fuel 26 cs = some x) : ∃ l : List UInt8, l.length = 32 ∧ cs = Lib.byteCells l := by
  obtain ⟨xs, m, _, _, hcl, hl, hel⟩ := DataW.trod_array Tryz.underlying26 h
  have hcl : cs.length = 32 := hcl.trans s_hash
  obtain ⟨l, h1, h2⟩ := list_of (Q := fun i (y : UInt8) => cs[i]? = some (.int .u8 (y.toNat : Int))) 32 (fun i hi => by
    have hE := hel i hi
    rw [s_u8, Nat.mul_one, List.getElem?_eq_getElem (by omega)] at hE
    obtain ⟨z, e1, _, hz⟩ := DataW.trod_int Tryz.underlying5 hE
    simp [Lit.wf, IntKind.min, IntKind.max, IntKind.signed, IntKind.bits] at hz
    refine ⟨UInt8.ofNat z.toNat, ?_⟩
    have e : ((UInt8.ofNat z.toNat).toNat : Int) = z := by rw [UInt8.toNat_ofNat']; omega
    rw [e]
    have h0 : ((cs.drop i).take 1)[0]? = some (.int .u8 z) := by rw [e1]; rfl
    simpa using h0)
  refine ⟨l, h1, List.ext_getElem? fun i => ?_⟩
  by_cases hi : i < 32
  · rw [h2 i (by omega)]
    simp [Lib.byteCells, List.getElem?_eq_getElem (show i < l.length by omega)]
  · rw [List.getElem?_eq_none (by omega), List.getElem?_eq_none (by rw [Lib.byteCells_length]; omega)]
theorem cut8 (cs : List Value) (h : cs.length = 39) : cs = (cs.drop 0).take 1 ++ (cs.drop 1).take 1 ++ (cs.drop 2).take 1 ++ (cs.drop 3).take 1 ++ (cs.drop 4).take 32 ++ (cs.drop 36).take 1 ++ (cs.drop 37).take 1 ++ (cs.drop 38).take 1 := by
  have key : ∀ (l : List Value) (a k : Nat), l.drop a = (l.drop a).take k ++ l.drop (a + k) := fun l a k => by rw [← List.drop_drop, List.take_append_drop]
  have z : cs.drop 39 = [] := List.drop_eq_nil_of_le (by omega)
  calc cs = cs.drop 0 := rfl
    _ = _ := by
      conv => lhs; rw [key cs 0 1, key cs (0 + 1) 1, key cs (0 + 1 + 1) 1, key cs (0 + 1 + 1 + 1) 1, key cs (0 + 1 + 1 + 1 + 1) 32, key cs (0 + 1 + 1 + 1 + 1 + 32) 1, key cs (0 + 1 + 1 + 1 + 1 + 32 + 1) 1, key cs (0 + 1 + 1 + 1 + 1 + 32 + 1 + 1) 1]
      simp only [Nat.zero_add, Nat.reduceAdd, z, List.append_nil, List.append_assoc]
/-- a slice of things of k cells each, wherever it stands -/
theorem slice_rowsS {D : Type} {t e : TypeId} {k : Nat} (f : D → List Value) (wf : D → Prop) (hu : Tryz.prog.underlying t = some (.slice e)) (hk : Tryz.prog.cellsOf e = k) (hk0 : 0 < k)
    (elem : ∀ fuel cs x, DataW.trod enc Tryz.prog W b sp held fuel e cs = some x → cs.length = k → ∃ d, wf d ∧ cs = f d)
    {fuel : Nat} {x : DataW H × List MemPlace} {cs : List Value} (h : DataW.trod enc Tryz.prog W b sp held fuel t cs = some x) :
    ∃ (sv : Value) (ds : List D), cs = [sv] ∧ (∀ d ∈ ds, wf d) ∧ RdS W.heap.size W sv ds.length k (ds.flatMap f) := by
  rcases DataW.trod_slice hu h with ⟨rfl, _⟩ | ⟨a, len, cap, elems, rest, m, _, rfl, _, _, hl, hm, _, hel, hi, _⟩
  · exact ⟨_, [], rfl, by simp, none, 0, rfl, Nat.le_refl _, by unfold maxLen; omega, by simp, Or.inl rfl⟩
  · by_cases h0 : len = 0
    · subst h0
      exact ⟨_, [], rfl, by simp, some a, cap, rfl, Nat.zero_le _, hm, by simp, Or.inl rfl⟩
    rw [hk] at hel
    have each : ∀ i, i < len → ∃ cs, W.cells? b (a.add (i * k)) k = some cs ∧ ∃ y, DataW.trod enc Tryz.prog W b sp held m e cs = some y := by
      intro i hin
      have h1 := hel i hin
      rw [List.getElem?_eq_getElem (by omega), Option.bind_eq_some_iff] at h1
      obtain ⟨cs, h2, h3⟩ := h1
      exact ⟨cs, h2, _, h3⟩
    obtain ⟨cs0, k1, _⟩ := each 0 (by omega)
    obtain ⟨k2, k3⟩ := cells_two k1
    have k4 := k3 0 (by omega)
    rw [Nat.zero_mul] at k4
    have e0 : (a.add 0).add 0 = a := rfl
    rw [e0, List.getElem?_eq_getElem (by omega)] at k4
    obtain ⟨g, o, s⟩ := a
    have hs : s = none ∧ g < W.heap.size := by
      refine ⟨?_, World.block_lt_of_cell? W _ k4⟩
      unfold World.cell? at k4
      split at k4
      · cases s with
        | none => rfl
        | some q => simp at k4
      · cases k4
    obtain ⟨rfl, hg⟩ := hs
    obtain ⟨l, hll, hq⟩ := list_of (Q := fun i (d : D) => wf d ∧ (f d).length = k ∧ RowAt W g (o + i * k) (f d)) len (fun i hin => by
      obtain ⟨cs, h2, y, h3⟩ := each i hin
      obtain ⟨hcl, hc⟩ := cells_two h2
      obtain ⟨d, hd, rfl⟩ := elem _ _ _ h3 hcl
      refine ⟨d, hd, hcl, ?_⟩
      intro j v hj
      have hj2 : j < k := by have := (List.getElem?_eq_some_iff.1 hj).1; rw [hcl] at this; exact this
      have := hc j hj2
      rw [addr_add, addr_add] at this
      rw [this]; exact hj)
    subst hll
    have hw : ∀ d ∈ l, wf d ∧ (f d).length = k := fun d hd => by
      obtain ⟨i, hi2, rfl⟩ := List.getElem_of_mem hd
      exact ⟨(hq i hi2).1, (hq i hi2).2.1⟩
    exact ⟨_, l, rfl, fun d hd => (hw d hd).1, some ⟨g, o, none⟩, cap, rfl, hl, hm, flat_length f k l (fun d hd => (hw d hd).2), Or.inr ⟨g, o, rfl, hg, row_ofS l o (fun d hd => (hw d hd).2) (fun i hi => (hq i hi).2.2)⟩⟩
/-- bytes that came in -/
theorem bytes_trodS {fuel : Nat} {x : DataW H × List MemPlace} {cs : List Value} (h : DataW.trod enc Tryz.prog W b sp held fuel 27 cs = some x) : ∃ (v : Value) (l : List UInt8), cs = [v] ∧ RdS W.heap.size W v l.length 1 (Lib.byteCells l) := by
  obtain ⟨sv, ds, e, _, hr⟩ := slice_rowsS (fun c : UInt8 => [Value.int .u8 (c.toNat : Int)]) (fun _ => True) Tryz.underlying27 s_u8 (by decide) (fun _ _ _ h hc => by
    obtain ⟨z, e1, _, hz⟩ := DataW.trod_int Tryz.underlying5 h
    simp [Lit.wf, IntKind.min, IntKind.max, IntKind.signed, IntKind.bits] at hz
    refine ⟨UInt8.ofNat z.toNat, trivial, ?_⟩
    have e : ((UInt8.ofNat z.toNat).toNat : Int) = z := by rw [UInt8.toNat_ofNat']; omega
    rw [e]; exact e1) h
  refine ⟨sv, ds, e, ?_⟩
  have hm : ∀ l : List UInt8, (l.flatMap fun c : UInt8 => [Value.int .u8 (c.toNat : Int)]) = Lib.byteCells l := fun l => by
    unfold Lib.byteCells
    induction l with
    | nil => rfl
    | cons a l ih => rw [List.flatMap_cons, ih]; rfl
  rwa [hm] at hr
theorem ask_trod {fuel : Nat} {cs : List Value} {x : DataW H × List MemPlace} (h : DataW.trod enc Tryz.prog W b sp held fuel 29 cs = some x) (hcl : cs.length = 39) : ∃ d : AskD, (d.wf ∧ ∃ l, RdS W.heap.size W d.bv l.length 1 (Lib.byteCells l)) ∧ cs = d.cells := by
  obtain ⟨xs, m, _, _, _, hxs, hf⟩ := DataW.trod_struct Tryz.underlying29 h
  have f0 := hf 0 _ rfl; have f1 := hf 1 _ rfl; have f2 := hf 2 _ rfl; have f3 := hf 3 _ rfl; have f4 := hf 4 _ rfl; have f5 := hf 5 _ rfl; have f6 := hf 6 _ rfl; have f7 := hf 7 _ rfl
  rw [List.getElem?_eq_getElem (by rw [hxs]; decide)] at f0 f1 f2 f3 f4 f5 f6 f7
  obtain ⟨n0, e0, _, q0⟩ := DataW.trod_int Tryz.underlying3 f0
  obtain ⟨n1, e1, _, q1⟩ := DataW.trod_int Tryz.underlying3 f1
  obtain ⟨n2, e2, _, q2⟩ := DataW.trod_int Tryz.underlying3 f2
  obtain ⟨n3, e3, _, q3⟩ := DataW.trod_int Tryz.underlying24 f3
  obtain ⟨l4, q4, e4⟩ := hash_trodS f4
  obtain ⟨n5, e5, _, q5⟩ := DataW.trod_int Tryz.underlying3 f5
  obtain ⟨n6, e6, _, q6⟩ := DataW.trod_int Tryz.underlying3 f6
  obtain ⟨v7, l7, e7, q7⟩ := bytes_trodS f7
  have hv7 : v7.oneCell' = true := by obtain ⟨_, _, rfl, _⟩ := q7; rfl
  refine ⟨⟨n0, n1, n2, n3, l4, n5, n6, v7⟩, ⟨⟨lit_i64 q0, lit_i64 q1, lit_i64 q2, lit_i64 q3, q4, lit_i64 q5, lit_i64 q6, hv7⟩, l7, q7⟩, ?_⟩
  have h0 : (cs.drop 0).take 1 = [.int .i64 n0] := by have : (cs.drop 0).take (Tryz.prog.cellsOf 3) = [.int .i64 n0] := e0; rwa [s_int] at this
  have h1 : (cs.drop 1).take 1 = [.int .i64 n1] := by have : (cs.drop 1).take (Tryz.prog.cellsOf 3) = [.int .i64 n1] := e1; rwa [s_int] at this
  have h2 : (cs.drop 2).take 1 = [.int .i64 n2] := by have : (cs.drop 2).take (Tryz.prog.cellsOf 3) = [.int .i64 n2] := e2; rwa [s_int] at this
  have h3 : (cs.drop 3).take 1 = [.int .i64 n3] := by have : (cs.drop 3).take (Tryz.prog.cellsOf 24) = [.int .i64 n3] := e3; rwa [s_vt] at this
  have h4 : (cs.drop 4).take 32 = Lib.byteCells l4 := by have : (cs.drop 4).take (Tryz.prog.cellsOf 26) = Lib.byteCells l4 := e4; rwa [s_hash] at this
  have h5 : (cs.drop 36).take 1 = [.int .i64 n5] := by have : (cs.drop 36).take (Tryz.prog.cellsOf 3) = [.int .i64 n5] := e5; rwa [s_int] at this
  have h6 : (cs.drop 37).take 1 = [.int .i64 n6] := by have : (cs.drop 37).take (Tryz.prog.cellsOf 3) = [.int .i64 n6] := e6; rwa [s_int] at this
  have h7 : (cs.drop 38).take 1 = [v7] := by have : (cs.drop 38).take (Tryz.prog.cellsOf 27) = [v7] := e7; rwa [s_bs] at this
  rw [cut8 cs hcl, h0, h1, h2, h3, h4, h5, h6, h7]
  simp [AskD.cells]
theorem asks_open {v : Value} {d : DataW H} {ps : List MemPlace} (h : Value.okWide Tryz.prog W .any base 23 v) (ht : DataW.Trod enc Tryz.prog W b sp held 23 v d ps) :
    ∃ s : List AskD, RdS W.heap.size W v s.length 39 (asksCells s) ∧ (∀ a ∈ s, a.wf) ∧ ∀ a ∈ s, ∃ l, RdS W.heap.size W a.bv l.length 1 (Lib.byteCells l) := by
  have hc : Cell.okWide Tryz.prog W .any base 23 v := by
    unfold Value.okWide at h
    rw [Tryz.underlying23] at h
    exact h
  obtain ⟨ao, n, k, rfl, _⟩ := slice_cell Tryz.underlying23 hc
  obtain ⟨fuel, ht⟩ := ht
  have ht' : DataW.trod enc Tryz.prog W b sp held fuel 23 [.slice ao n k] = some (d, ps) := by simpa [Value.cells] using ht
  obtain ⟨sv, ds, e, hw, hr⟩ := slice_rowsS AskD.cells (fun a => a.wf ∧ ∃ l, RdS W.heap.size W a.bv l.length 1 (Lib.byteCells l)) Tryz.underlying23 (by kernel_rfl) (by decide) (fun _ _ _ h hc => ask_trod h hc) ht'
  simp only [List.cons.injEq, and_true] at e
  subst e
  exact ⟨ds, hr, fun a ha => (hw a ha).1, fun a ha => (hw a ha).2⟩
theorem ask_types : Tryz.prog.cellTypes Tryz.prog.depth 29 = some ([3, 3, 3, 24] ++ (List.replicate 32 5 ++ [3, 3, 27])) := by kernel_rfl
theorem ask_open {v : Value} {d : DataW H} {ps : List MemPlace} (h : Value.okWide Tryz.prog W .any base 29 v) (ht : DataW.Trod enc Tryz.prog W b sp held 29 v d ps) : ∃ a : AskD, a.wf ∧ v = .agg a.cells.toArray := by
  obtain ⟨cs, rfl, hc⟩ := cells_open h (by kernel_rfl) ask_types (by kernel_rfl)
  obtain ⟨fuel, ht⟩ := ht
  have ht' : DataW.trod enc Tryz.prog W b sp held fuel 29 cs = some (d, ps) := by simpa [Value.cells] using ht
  have hcl : cs.length = 39 := by
    have := DataW.trod_struct Tryz.underlying29 ht'
    obtain ⟨_, _, _, _, h2, _⟩ := this
    exact h2.trans (by kernel_rfl)
  obtain ⟨a, ha, rfl⟩ := ask_trod ht' hcl
  exact ⟨a, ha.1, rfl⟩
theorem u64_openS {v : Value} (h : Value.okWide Tryz.prog W .any base 22 v) : ∃ n : Nat, v = .int .u64 (n : Int) ∧ n < 18446744073709551616 := by
  have hc : Cell.okWide Tryz.prog W .any base 22 v := by
    unfold Value.okWide at h; rw [Tryz.underlying22] at h; exact h
  obtain ⟨n, rfl, q⟩ := u64_cell Tryz.underlying22 hc
  obtain ⟨h1, h2⟩ := u64_nat q
  exact ⟨n.toNat, by rw [← h1], h2⟩
end

end Go.Proofs.YtcbkehnlgpcelaaGreatDoor
