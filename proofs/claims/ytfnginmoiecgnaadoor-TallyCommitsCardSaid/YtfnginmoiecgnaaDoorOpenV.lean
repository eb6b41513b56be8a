/- What comes in: a list of validators, a string, a commit. What comes in: a list of votes; what a tally is for. -/
import Derived.Test.YtfnginmoiecgnaaDoorOpenH
import Derived.Test.YtfnginmoiecgnaaDoorTaO
namespace Go.Proofs.YtfnginmoiecgnaaDoor
open Go.RowKit Go.ChangeShapes Go.WideShapes
set_option maxRecDepth 100000

section
variable {H : Type} {enc : TypeId × Value → H} {W : World} {base b : Nat} {sp : Nat → Bool} {held : Bool} {v : Value} {d : DataW H} {ps : List MemPlace}
theorem okWide_cell' {P : Program} {t e : TypeId} {v : Value} (hu : P.underlying t = some (.slice e)) (h : Value.okWide P W .any base t v) : Cell.okWide P W .any base t v := by
  unfold Value.okWide at h; rw [hu] at h; exact h
theorem okWide_str {P : Program} {t : TypeId} {v : Value} (hu : P.underlying t = some .string) (h : Value.okWide P W .any base t v) : Cell.okWide P W .any base t v := by
  unfold Value.okWide at h; rw [hu] at h; exact h
theorem set_open (h : Value.okWide Tryd.prog W .any base 38 v) (ht : DataW.Trod enc Tryd.prog W b sp held 38 v d ps) :
    ∃ ds : List ValD, (∀ d ∈ ds, d.wf) ∧ RdS W.heap.size W v ds.length 2 (setCells ds) := by
  obtain ⟨ao, n, k, rfl, hnk, hk, hs⟩ := slice_cell Tryd.underlying38 (okWide_cell' Tryd.underlying38 h)
  obtain ⟨fuel, ht⟩ := ht
  have ht : DataW.trod enc Tryd.prog W b sp held fuel 38 [.slice ao n k] = some (d, ps) := by simpa [Value.cells] using ht
  obtain ⟨ds, h1, h2⟩ := vals_rep ht hnk hk hs
  have hl : ds.length = n := by obtain ⟨_, _, e, _⟩ := h2; injection e with _ e _; exact e.symm
  exact ⟨ds, h1, h2⟩
theorem str_open (h : Value.okWide Tryd.prog W .any base 9 v) : ∃ s : ByteArray, v = .string s ∧ s.size ≤ maxLen := string_cell Tryd.underlying9 (okWide_str Tryd.underlying9 h)
theorem str_chain {s : ByteArray} (h : DataW.Trod enc Tryd.prog W b sp held 9 (.string s) d ps) : s.size ∈ d.weights Tryd.prog 9 := by
  obtain ⟨fuel, h⟩ := h
  have h : DataW.trod enc Tryd.prog W b sp held fuel 9 [.string s] = some (d, ps) := by simpa [Value.cells] using h
  exact string_weight Tryd.underlying9 h
theorem commit_types : Tryd.prog.cellTypes Tryd.prog.depth 54 = some ([3, 3] ++ (List.replicate 32 5 ++ [52])) := by kernel_rfl
theorem commit_open (h : Value.okWide Tryd.prog W .any base 54 v) (ht : DataW.Trod enc Tryd.prog W b sp held 54 v d ps) :
    ∃ (c : CommitD) (cs : List Value), c.wf ∧ v = .agg cs.toArray ∧ c.rep W.heap.size W cs := by
  obtain ⟨cs, rfl, hc⟩ := cells_open h (by kernel_rfl) commit_types (by kernel_rfl)
  obtain ⟨c3, r8, rfl, h3, hc⟩ := cellsOk_cons hc
  obtain ⟨c4, r9, rfl, h4, hc⟩ := cellsOk_cons hc
  obtain ⟨l6, r10, rfl, hl6, hc⟩ := bytes_cells Tryd.underlying5 32 _ _ hc
  obtain ⟨c5, r11, rfl, h5, hc⟩ := cellsOk_cons hc
  obtain rfl := cellsOk_nil hc
  obtain ⟨n3, rfl, q3⟩ := i64_cell Tryd.underlying3 h3
  obtain ⟨n4, rfl, q4⟩ := i64_cell Tryd.underlying3 h4
  obtain ⟨a5, m5, k5, rfl, z5, y5, x5⟩ := slice_cell Tryd.underlying52 h5
  obtain ⟨fuel, ht⟩ := ht
  obtain ⟨cc, ecc⟩ : ∃ cc : List Value, cc = [.int .i64 n3, .int .i64 n4] ++ Lib.byteCells l6 ++ [.slice a5 m5 k5] := ⟨_, rfl⟩
  have e1 : (Value.int .i64 n3 :: .int .i64 n4 :: (Lib.byteCells l6 ++ [.slice a5 m5 k5])) = cc := by rw [ecc]; simp
  rw [e1] at ht ⊢
  have ht : DataW.trod enc Tryd.prog W b sp held fuel 54 cc = some (d, ps) := by simpa [Value.cells] using ht
  obtain ⟨ys, n', _, _, _, hys, hg⟩ := DataW.trod_struct Tryd.underlying54 ht
  have g3 := hg 3 _ rfl
  rw [List.getElem?_eq_getElem (by rw [hys]; decide)] at g3
  have t4 : (cc.drop 34).take 1 = [.slice a5 m5 k5] := by rw [ecc, List.drop_left' (by simp [Lib.byteCells_length, hl6])]; rfl
  obtain ⟨_, g3'⟩ : ∃ z, DataW.trod enc Tryd.prog W b sp held n' 52 [.slice a5 m5 k5] = some z := ⟨_, (congrArg (fun z => DataW.trod enc Tryd.prog W b sp held n' 52 z) t4.symm).trans g3⟩
  obtain ⟨ss, sw, sr⟩ := seals_rep g3' z5 y5 x5
  exact ⟨⟨n3, n4, l6, ss⟩, cc, ⟨q3, q4, hl6, sw⟩, rfl, _, sr, ecc⟩
end

section
variable {H : Type} {enc : TypeId × Value → H} {W : World} {base b : Nat} {sp : Nat → Bool} {held : Bool}
theorem v_u8 : Tryd.prog.cellsOf 5 = 1 := by kernel_rfl
theorem v_hash_size : Tryd.prog.cellsOf 25 = 32 := by kernel_rfl
theorem v_int_size : Tryd.prog.cellsOf 3 = 1 := by kernel_rfl
theorem v_type_size : Tryd.prog.cellsOf 23 = 1 := by kernel_rfl
theorem v_string_size : Tryd.prog.cellsOf 9 = 1 := by kernel_rfl
theorem v_u64_size : Tryd.prog.cellsOf 22 = 1 := by kernel_rfl
theorem v_sig_size : Tryd.prog.cellsOf 27 = 2 := by kernel_rfl
theorem v_vote_size : Tryd.prog.cellsOf 29 = 39 := by kernel_rfl
theorem v_set_size : Tryd.prog.cellsOf 38 = 1 := by kernel_rfl
theorem hash_trodV {fuel : Nat} {cs : List Value} {x : DataW H × List MemPlace} (h : DataW.trod enc Tryd.prog W b sp held fuel 25 cs = some x) : ∃ l : List UInt8, l.length = 32 ∧ cs = Lib.byteCells l := by
  obtain ⟨xs, m, _, _, hcl, hl, hel⟩ := DataW.trod_array Tryd.underlying25 h
  have hcl : cs.length = 32 := hcl.trans v_hash_size
  obtain ⟨l, h1, h2⟩ := list_of (Q := fun i (y : UInt8) => cs[i]? = some (.int .u8 (y.toNat : Int))) 32 (fun i hi => by
    have hE := hel i hi
    rw [v_u8, Nat.mul_one, List.getElem?_eq_getElem (by omega)] at hE
    obtain ⟨z, e1, _, hz⟩ := DataW.trod_int Tryd.underlying5 hE
    simp [Lit.wf, IntKind.min, IntKind.max, IntKind.signed, IntKind.bits] at hz
    refine ⟨UInt8.ofNat z.toNat, ?_⟩
    have e : ((UInt8.ofNat z.toNat).toNat : Int) = z := by rw [UInt8.toNat_ofNat']; omega
    rw [e]
    have h0 : ((cs.drop i).take 1)[0]? = some (.int .u8 z) := by rw [e1]; rfl
    simpa using h0)
  refine ⟨l, h1, List.ext_getElem? fun i => ?_⟩
  by_cases hi : i < 32
  · rw [h2 i (by omega)]
    simp [Lib.byteCells, List.getElem?_eq_getElem (show i < l.length by omega)]
  · rw [List.getElem?_eq_none (by omega), List.getElem?_eq_none (by rw [Lib.byteCells_length]; omega)]
theorem cut7 (cs : List Value) (h : cs.length = 39) : cs = (cs.drop 0).take 1 ++ (cs.drop 1).take 1 ++ (cs.drop 2).take 1 ++ (cs.drop 3).take 1 ++ (cs.drop 4).take 32 ++ (cs.drop 36).take 1 ++ (cs.drop 37).take 2 := by
  have key : ∀ (l : List Value) (a k : Nat), l.drop a = (l.drop a).take k ++ l.drop (a + k) := fun l a k => by rw [← List.drop_drop, List.take_append_drop]
  have z : cs.drop 39 = [] := List.drop_eq_nil_of_le (by omega)
  calc cs = cs.drop 0 := rfl
    _ = _ := by
      conv => lhs; rw [key cs 0 1, key cs (0 + 1) 1, key cs (0 + 1 + 1) 1, key cs (0 + 1 + 1 + 1) 1, key cs (0 + 1 + 1 + 1 + 1) 32, key cs (0 + 1 + 1 + 1 + 1 + 32) 1, key cs (0 + 1 + 1 + 1 + 1 + 32 + 1) 2]
      simp only [Nat.zero_add, Nat.reduceAdd, z, List.append_nil, List.append_assoc]
theorem vote_trod {fuel : Nat} {cs : List Value} {x : DataW H × List MemPlace} (h : DataW.trod enc Tryd.prog W b sp held fuel 29 cs = some x) : ∃ d : VoteD, d.wf ∧ cs = d.cells := by
  obtain ⟨xs, m, _, _, hcl, hxs, hf⟩ := DataW.trod_struct Tryd.underlying29 h
  rw [v_vote_size] at hcl
  have f0 := hf 0 _ rfl; have f1 := hf 1 _ rfl; have f2 := hf 2 _ rfl; have f3 := hf 3 _ rfl; have f4 := hf 4 _ rfl; have f5 := hf 5 _ rfl; have f6 := hf 6 _ rfl
  rw [List.getElem?_eq_getElem (by rw [hxs]; decide)] at f0 f1 f2 f3 f4 f5 f6
  obtain ⟨s, e0, _, q0⟩ := DataW.trod_string Tryd.underlying9 f0
  obtain ⟨n1, e1, _, q1⟩ := DataW.trod_int Tryd.underlying3 f1
  obtain ⟨n2, e2, _, q2⟩ := DataW.trod_int Tryd.underlying3 f2
  obtain ⟨n3, e3, _, q3⟩ := DataW.trod_int Tryd.underlying23 f3
  obtain ⟨l4, q4, e4⟩ := hash_trodV f4
  obtain ⟨n5, e5, _, q5⟩ := DataW.trod_int Tryd.underlying22 f5
  obtain ⟨ys, m', _, _, _, hys, hg⟩ := DataW.trod_struct Tryd.underlying27 f6
  have g0 := hg 0 _ rfl; have g1 := hg 1 _ rfl
  rw [List.getElem?_eq_getElem (by rw [hys]; decide)] at g0 g1
  obtain ⟨n6, e6, _, q6⟩ := DataW.trod_int Tryd.underlying22 g0
  obtain ⟨n7, e7, _, q7⟩ := DataW.trod_int Tryd.underlying22 g1
  refine ⟨⟨s, n1, n2, n3, l4, n5, n6, n7⟩, ⟨q0, lit_i64 q1, lit_i64 q2, lit_i64 q3, q4, lit_u64 q5, lit_u64 q6, lit_u64 q7⟩, ?_⟩
  have h0 : (cs.drop 0).take 1 = [.string s] := by have : (cs.drop 0).take (Tryd.prog.cellsOf 9) = [.string s] := e0; rwa [v_string_size] at this
  have h1 : (cs.drop 1).take 1 = [.int .i64 n1] := by have : (cs.drop 1).take (Tryd.prog.cellsOf 3) = [.int .i64 n1] := e1; rwa [v_int_size] at this
  have h2 : (cs.drop 2).take 1 = [.int .i64 n2] := by have : (cs.drop 2).take (Tryd.prog.cellsOf 3) = [.int .i64 n2] := e2; rwa [v_int_size] at this
  have h3 : (cs.drop 3).take 1 = [.int .i64 n3] := by have : (cs.drop 3).take (Tryd.prog.cellsOf 23) = [.int .i64 n3] := e3; rwa [v_type_size] at this
  have h4 : (cs.drop 4).take 32 = Lib.byteCells l4 := by have : (cs.drop 4).take (Tryd.prog.cellsOf 25) = Lib.byteCells l4 := e4; rwa [v_hash_size] at this
  have h5 : (cs.drop 36).take 1 = [.int .u64 n5] := by have : (cs.drop 36).take (Tryd.prog.cellsOf 22) = [.int .u64 n5] := e5; rwa [v_u64_size] at this
  obtain ⟨cm, hcm⟩ : ∃ cm, (cs.drop 37).take 2 = cm := ⟨_, rfl⟩
  have hcm' : (cs.drop 37).take (Tryd.prog.cellsOf 27) = cm := by rw [v_sig_size]; exact hcm
  have hcml : cm.length = 2 := by rw [← hcm]; simp; omega
  have d0 : (cm.drop 0).take 1 = [.int .u64 n6] := by have : (((cs.drop 37).take (Tryd.prog.cellsOf 27)).drop 0).take (Tryd.prog.cellsOf 22) = [.int .u64 n6] := e6; rwa [v_u64_size, hcm'] at this
  have d1 : (cm.drop 1).take 1 = [.int .u64 n7] := by have : (((cs.drop 37).take (Tryd.prog.cellsOf 27)).drop 1).take (Tryd.prog.cellsOf 22) = [.int .u64 n7] := e7; rwa [v_u64_size, hcm'] at this
  have hcm2 : cm = [.int .u64 n6, .int .u64 n7] := by
    match cm, hcml with
    | [a, c], _ =>
      have a1 : a = .int .u64 n6 := by simpa using d0
      have a2 : c = .int .u64 n7 := by simpa using d1
      rw [a1, a2]
  rw [cut7 cs hcl, h0, h1, h2, h3, h4, h5, hcm, hcm2]
  simp [VoteD.cells]
theorem row_ofV {D : Type} {f : D → List Value} {k : Nat} {w : World} {g : Nat} : ∀ (l : List D) (o : Nat), (∀ d ∈ l, (f d).length = k) → (∀ i (h : i < l.length), RowAt w g (o + i * k) (f l[i])) → RowAt w g o (l.flatMap f)
  | [], o, _, _ => by intro j v hj; simp at hj
  | x :: l, o, hk, h => by
    have hx := hk x (by simp)
    have h0 := h 0 (by simp)
    rw [Nat.zero_mul, Nat.add_zero] at h0
    have hr := row_ofV l (o + k) (fun d hd => hk d (by simp [hd])) (fun i hi => by
      have := h (i + 1) (by simpa using hi)
      rwa [show o + (i + 1) * k = o + k + i * k by rw [Nat.add_mul]; omega] at this)
    intro j v hj
    rw [List.flatMap_cons] at hj
    by_cases hjk : j < k
    · rw [List.getElem?_append_left (by rw [hx]; exact hjk)] at hj
      exact h0 j v hj
    · rw [List.getElem?_append_right (by rw [hx]; omega), hx] at hj
      have := hr (j - k) v hj
      rwa [show o + k + (j - k) = o + j by omega] at this
theorem votes_open {v : Value} {d : DataW H} {ps : List MemPlace} (h : Value.okWide Tryd.prog W .any base 41 v) (ht : DataW.Trod enc Tryd.prog W b sp held 41 v d ps) :
    ∃ ds : List VoteD, (∀ d ∈ ds, d.wf) ∧ RdS W.heap.size W v ds.length 39 (voteCells ds) := by
  obtain ⟨ao, n, k, rfl, h1, h2, h3⟩ := slice_cell Tryd.underlying41 (okWide_cell' Tryd.underlying41 h)
  rcases h3 with ⟨rfl, rfl, rfl⟩ | ⟨g, o, rfl, hg⟩
  · exact ⟨[], by simp, none, 0, rfl, Nat.le_refl _, h2, rfl, Or.inl ⟨rfl, rfl, rfl⟩⟩
  · obtain ⟨fuel, ht⟩ := ht
    rcases DataW.trod_slice Tryd.underlying41 ht with ⟨h0, _⟩ | ⟨a, len, cap, elems, rest, m, _, e1, _, _, _, _, hel, hi, _⟩
    · simp [Value.cells] at h0
    · simp only [Value.cells, List.cons.injEq, Value.slice.injEq, Option.some.injEq, and_true] at e1
      obtain ⟨rfl, rfl, rfl⟩ := e1
      rw [v_vote_size] at hi
      obtain ⟨l, hl, hq⟩ := list_of (Q := fun i (d : VoteD) => d.wf ∧ RowAt W g (o + i * 39) d.cells) n (fun i hin => by
        have h1 := hi i hin
        rw [List.getElem?_eq_getElem (by omega), Option.bind_eq_some_iff] at h1
        obtain ⟨cs, h2, h3⟩ := h1
        obtain ⟨hcl, hc⟩ := cells_two h2
        obtain ⟨d, hd, rfl⟩ := vote_trod h3
        refine ⟨d, hd, ?_⟩
        intro j v hj
        have hj2 : j < 39 := by have := (List.getElem?_eq_some_iff.1 hj).1; omega
        have := hc j hj2
        rw [addr_add, addr_add] at this
        rw [this]; exact hj)
      have hw : ∀ d ∈ l, d.wf := fun d hd => by
        obtain ⟨i, hi2, rfl⟩ := List.getElem_of_mem hd
        exact (hq i hi2).1
      subst hl
      exact ⟨l, hw, _, k, rfl, h1, h2, flat_length VoteD.cells 39 l (fun d hd => d.cells_length (hw d hd)), Or.inr ⟨g, o, rfl, hg, row_ofV l o (fun d hd => d.cells_length (hw d hd)) (fun i hi => (hq i hi).2)⟩⟩
theorem of_types : Tryd.prog.cellTypes Tryd.prog.depth 40 = some [38, 9, 3, 3, 23] := by kernel_rfl
theorem of_open {v : Value} {d : DataW H} {ps : List MemPlace} (h : Value.okWide Tryd.prog W .any base 40 v) (ht : DataW.Trod enc Tryd.prog W b sp held 40 v d ps) :
    ∃ (sv : Value) (ds : List ValD) (s : ByteArray) (n1 n2 n3 : Int), v = .agg #[sv, .string s, .int .i64 n1, .int .i64 n2, .int .i64 n3] ∧ RdS W.heap.size W sv ds.length 2 (setCells ds) ∧ s.size ≤ maxLen ∧ i64R n1 ∧ i64R n2 ∧ i64R n3 := by
  obtain ⟨cs, rfl, hc⟩ := cells_open h (by kernel_rfl) of_types (by kernel_rfl)
  obtain ⟨c0, r0, rfl, h0, hc⟩ := cellsOk_cons hc
  obtain ⟨c1, r1, rfl, h1, hc⟩ := cellsOk_cons hc
  obtain ⟨c2, r2, rfl, h2, hc⟩ := cellsOk_cons hc
  obtain ⟨c3, r3, rfl, h3, hc⟩ := cellsOk_cons hc
  obtain ⟨c4, r4, rfl, h4, hc⟩ := cellsOk_cons hc
  obtain rfl := cellsOk_nil hc
  obtain ⟨s, rfl, q1⟩ := string_cell Tryd.underlying9 h1
  obtain ⟨n2, rfl, q2⟩ := i64_cell Tryd.underlying3 h2
  obtain ⟨n3, rfl, q3⟩ := i64_cell Tryd.underlying3 h3
  obtain ⟨n4, rfl, q4⟩ := i64_cell Tryd.underlying23 h4
  obtain ⟨a0, m0, k0, rfl, z0, y0, x0⟩ := slice_cell Tryd.underlying38 h0
  obtain ⟨fuel, ht⟩ := ht
  obtain ⟨ys, n', _, _, _, hys, hg⟩ := DataW.trod_struct Tryd.underlying40 ht
  have g0 := hg 0 _ rfl
  rw [List.getElem?_eq_getElem (by rw [hys]; decide)] at g0
  obtain ⟨_, g0'⟩ : ∃ z, DataW.trod enc Tryd.prog W b sp held n' 38 [.slice a0 m0 k0] = some z := ⟨_, g0⟩
  obtain ⟨vs, vw, vr⟩ := vals_rep g0' z0 y0 x0
  exact ⟨_, vs, s, n2, n3, n4, rfl, vr, q1, q2, q3, q4⟩
end

end Go.Proofs.YtfnginmoiecgnaaDoor
