/- What comes in: acts of nunciolaw20's scripts. -/
import Derived.Test.YtlahdaanfhedoaaDoorOpCh
import Derived.Test.YtlahdaanfhedoaaDoorCh14
namespace Go.Proofs.YtlahdaanfhedoaaDoor
open Go.RowKit Go.ChangeShapes Go.WideShapes
set_option maxRecDepth 100000

theorem row_of2 {D : Type} {f : D → List Value} {k : Nat} {w : World} {g : Nat} : ∀ (l : List D) (o : Nat), (∀ d ∈ l, (f d).length = k) → (∀ i (h : i < l.length), RowAt w g (o + i * k) (f l[i])) → RowAt w g o (l.flatMap f)
  | [], o, _, _ => by intro j v hj; simp at hj
  | x :: l, o, hk, h => by
    have h0 := h 0 (by simp)
    rw [Nat.zero_mul, Nat.add_zero] at h0
    have hr := row_of2 l (o + k) (fun d hd => hk d (by simp [hd])) (fun i hi => by
      have := h (i + 1) (by simpa using hi)
      rwa [show o + (i + 1) * k = o + k + i * k by rw [Nat.add_mul]; omega] at this)
    have hx := hk x (by simp)
    intro j v hj
    rw [List.flatMap_cons] at hj
    by_cases hjk : j < k
    · rw [List.getElem?_append_left (by rw [hx]; exact hjk)] at hj
      exact h0 j v hj
    · rw [List.getElem?_append_right (by rw [hx]; omega), hx] at hj
      have := hr (j - k) v hj
      rwa [show o + k + (j - k) = o + j by omega] at this
section
variable {H : Type} {enc : TypeId × Value → H} {W : World} {base b : Nat} {sp : Nat → Bool} {held : Bool}
/-- a slice of things of k cells each, wherever it stands -/
theorem slice_rows {D : Type} {t e : TypeId} {k : Nat} (f : D → List Value) (wf : D → Prop) (hu : Tryd.prog.underlying t = some (.slice e)) (hk : Tryd.prog.cellsOf e = k) (hk0 : 0 < k)
    (elem : ∀ fuel cs x, DataW.trod enc Tryd.prog W b sp held fuel e cs = some x → cs.length = k → ∃ d, wf d ∧ cs = f d)
    {fuel : Nat} {x : DataW H × List MemPlace} {cs : List Value} (h : DataW.trod enc Tryd.prog W b sp held fuel t cs = some x) :
    ∃ (sv : Value) (ds : List D), cs = [sv] ∧ (∀ d ∈ ds, wf d) ∧ RdS W.heap.size W sv ds.length k (ds.flatMap f) := by
  rcases DataW.trod_slice hu h with ⟨rfl, _⟩ | ⟨a, len, cap, elems, rest, m, _, rfl, _, _, hl, hm, _, hel, hi, _⟩
  · exact ⟨_, [], rfl, by simp, none, 0, rfl, Nat.le_refl _, by unfold maxLen; omega, by simp, Or.inl rfl⟩
  · by_cases h0 : len = 0
    · subst h0
      exact ⟨_, [], rfl, by simp, some a, cap, rfl, Nat.zero_le _, hm, by simp, Or.inl rfl⟩
    rw [hk] at hel
    have each : ∀ i, i < len → ∃ cs, W.cells? b (a.add (i * k)) k = some cs ∧ ∃ y, DataW.trod enc Tryd.prog W b sp held m e cs = some y := by
      intro i hin
      have h1 := hel i hin
      rw [List.getElem?_eq_getElem (by omega), Option.bind_eq_some_iff] at h1
      obtain ⟨cs, h2, h3⟩ := h1
      exact ⟨cs, h2, _, h3⟩
    obtain ⟨cs0, k1, _⟩ := each 0 (by omega)
    obtain ⟨k2, k3⟩ := cells_two k1
    have k4 := k3 0 (by omega)
    rw [Nat.zero_mul] at k4
    have e0 : (a.add 0).add 0 = a := rfl
    rw [e0, List.getElem?_eq_getElem (by omega)] at k4
    obtain ⟨g, o, s⟩ := a
    have hs : s = none ∧ g < W.heap.size := by
      refine ⟨?_, World.block_lt_of_cell? W _ k4⟩
      unfold World.cell? at k4
      split at k4
      · cases s with
        | none => rfl
        | some q => simp at k4
      · cases k4
    obtain ⟨rfl, hg⟩ := hs
    obtain ⟨l, hll, hq⟩ := list_of (Q := fun i (d : D) => wf d ∧ (f d).length = k ∧ RowAt W g (o + i * k) (f d)) len (fun i hin => by
      obtain ⟨cs, h2, y, h3⟩ := each i hin
      obtain ⟨hcl, hc⟩ := cells_two h2
      obtain ⟨d, hd, rfl⟩ := elem _ _ _ h3 hcl
      refine ⟨d, hd, hcl, ?_⟩
      intro j v hj
      have hj2 : j < k := by have := (List.getElem?_eq_some_iff.1 hj).1; rw [hcl] at this; exact this
      have := hc j hj2
      rw [addr_add, addr_add] at this
      rw [this]; exact hj)
    subst hll
    have hw : ∀ d ∈ l, wf d ∧ (f d).length = k := fun d hd => by
      obtain ⟨i, hi2, rfl⟩ := List.getElem_of_mem hd
      exact ⟨(hq i hi2).1, (hq i hi2).2.1⟩
    exact ⟨_, l, rfl, fun d hd => (hw d hd).1, some ⟨g, o, none⟩, cap, rfl, hl, hm, flat_length f k l (fun d hd => (hw d hd).2), Or.inr ⟨g, o, rfl, hg, row_of2 l o (fun d hd => (hw d hd).2) (fun i hi => (hq i hi).2.2)⟩⟩
theorem act20_trod {fuel : Nat} {cs : List Value} {x : DataW H × List MemPlace} (h : DataW.trod enc Tryd.prog W b sp held fuel 44 cs = some x) (hcl : cs.length = 11) : ∃ d : Act20, d.wf ∧ cs = d.cells := by
  obtain ⟨xs, m', _, _, _, hxs, hf⟩ := DataW.trod_struct Tryd.underlying44 h
  have f0 := hf 0 _ rfl; have f1 := hf 1 _ rfl; have f2 := hf 2 _ rfl; have f3 := hf 3 _ rfl; have f4 := hf 4 _ rfl
  have f5 := hf 5 _ rfl; have f6 := hf 6 _ rfl; have f7 := hf 7 _ rfl; have f8 := hf 8 _ rfl; have f9 := hf 9 _ rfl
  rw [List.getElem?_eq_getElem (by rw [hxs]; decide)] at f0 f1 f2 f3 f4 f5 f6 f7 f8 f9
  match cs, hcl with
  | [c0, c1, c2, c3, c4, c5, c6, c7, c8, c9, ca], _ =>
    obtain ⟨k0, e0, _, w0⟩ := DataW.trod_int Tryd.underlying3 f0
    obtain ⟨k1, e1, _, w1⟩ := DataW.trod_int Tryd.underlying3 f1
    obtain ⟨k2, e2, _, w2⟩ := DataW.trod_int Tryd.underlying3 f2
    obtain ⟨k3, e3, _, w3⟩ := DataW.trod_int Tryd.underlying3 f3
    obtain ⟨s4, e4, _, w4⟩ := DataW.trod_string Tryd.underlying9 f4
    obtain ⟨k5, e5, _, w5⟩ := DataW.trod_int Tryd.underlying3 f5
    obtain ⟨s6, e6, _, w6⟩ := DataW.trod_string Tryd.underlying9 f6
    obtain ⟨b7, e7, _⟩ := DataW.trod_bool Tryd.underlying4 f7
    have f8' : DataW.trod enc Tryd.prog W b sp held _ 42 [c8, c9] = some _ := f8
    obtain ⟨ys, m2, _, _, _, hys, hg⟩ := DataW.trod_struct Tryd.underlying42 f8'
    have g0 := hg 0 _ rfl
    rw [List.getElem?_eq_getElem (by rw [hys]; decide)] at g0
    obtain ⟨k8, e8, _, w8⟩ := DataW.trod_int Tryd.underlying3 g0
    obtain ⟨ka, ea, _, wa⟩ := DataW.trod_int Tryd.underlying3 f9
    have e0' : c0 = .int .i64 k0 := by have : [c0] = [Value.int .i64 k0] := e0; simpa using this
    have e1' : c1 = .int .i64 k1 := by have : [c1] = [Value.int .i64 k1] := e1; simpa using this
    have e2' : c2 = .int .i64 k2 := by have : [c2] = [Value.int .i64 k2] := e2; simpa using this
    have e3' : c3 = .int .i64 k3 := by have : [c3] = [Value.int .i64 k3] := e3; simpa using this
    have e4' : c4 = .string s4 := by have : [c4] = [Value.string s4] := e4; simpa using this
    have e5' : c5 = .int .i64 k5 := by have : [c5] = [Value.int .i64 k5] := e5; simpa using this
    have e6' : c6 = .string s6 := by have : [c6] = [Value.string s6] := e6; simpa using this
    have e7' : c7 = .bool b7 := by have : [c7] = [Value.bool b7] := e7; simpa using this
    have e8' : c8 = .int .i64 k8 := by have : [c8] = [Value.int .i64 k8] := e8; simpa using this
    have ea' : ca = .int .i64 ka := by have : [ca] = [Value.int .i64 ka] := ea; simpa using this
    subst e0' e1' e2' e3' e4' e5' e6' e7' e8' ea'
    exact ⟨⟨k0, k1, k2, k3, s4, k5, s6, b7, k8, c9, ka⟩, ⟨w4, lit_i64 w5⟩, rfl⟩
theorem acts20_open {v : Value} {d : DataW H} {ps : List MemPlace} (h : Value.okWide Tryd.prog W .any base 39 v) (ht : DataW.Trod enc Tryd.prog W b sp held 39 v d ps) :
    ∃ s : List Act20, RdS W.heap.size W v s.length 11 (acts20Cells s) ∧ ∀ a ∈ s, a.wf := by
  have hc : Cell.okWide Tryd.prog W .any base 39 v := by
    unfold Value.okWide at h
    rw [Tryd.underlying39] at h
    exact h
  obtain ⟨ao, n, k, rfl, _⟩ := slice_cell Tryd.underlying39 hc
  obtain ⟨fuel, ht⟩ := ht
  have ht' : DataW.trod enc Tryd.prog W b sp held fuel 39 [.slice ao n k] = some (d, ps) := by simpa [Value.cells] using ht
  obtain ⟨sv, ds, e, hw, hr⟩ := slice_rows Act20.cells Act20.wf Tryd.underlying39 (by kernel_rfl) (by decide) (fun _ _ _ h hc => act20_trod h hc) ht'
  simp only [List.cons.injEq, and_true] at e
  subst e
  exact ⟨ds, hr, hw⟩
end

end Go.Proofs.YtlahdaanfhedoaaDoor
