/- What comes in: proofs. -/
import Derived.Test.YtaffpgafbjhahaaDoorOpen3
import Derived.Test.YtaffpgafbjhahaaDoorPrf
namespace Go.Proofs.YtaffpgafbjhahaaDoor
open Go.RowKit Go.ChangeShapes Go.WideShapes
set_option maxRecDepth 100000

theorem proof_types : Tryd.prog.cellTypes Tryd.prog.depth 41 = some [3, 39] := by kernel_rfl
theorem partsR_of {R : Value → List (List UInt8) → Prop} {w : World} {g : Nat} : ∀ (n o : Nat), (∀ i, i < n → ∃ (d : PartD) (pv : Value), d.wf ∧ R pv d.path ∧ RowAt w g (o + i * 4) (d.cells pv)) →
    ∃ (ps : List PartD) (cs : List Value), ps.length = n ∧ (∀ d ∈ ps, d.wf) ∧ partsR R ps cs ∧ RowAt w g o cs
  | 0, o, _ => ⟨[], [], rfl, by simp, rfl, by intro j v hj; simp at hj⟩
  | n + 1, o, h => by
    obtain ⟨d, pv, h1, h2, h3⟩ := h 0 (by omega)
    obtain ⟨ps, cs, k1, k2, k3, k4⟩ := partsR_of n (o + 4) (fun i hi => by
      have := h (i + 1) (by omega)
      rwa [show o + (i + 1) * 4 = o + 4 + i * 4 by omega] at this)
    refine ⟨d :: ps, d.cells pv ++ cs, by simp [k1], by simpa using ⟨h1, k2⟩, ⟨pv, cs, h2, k3, rfl⟩, ?_⟩
    rw [Nat.zero_mul, Nat.add_zero] at h3
    intro j v hj
    by_cases hj4 : j < 4
    · rw [List.getElem?_append_left (by simpa [PartD.cells] using hj4)] at hj
      exact h3 j v hj
    · rw [List.getElem?_append_right (by simp [PartD.cells]; omega)] at hj
      have := k4 (j - 4) v (by simpa [PartD.cells] using hj)
      rwa [show o + 4 + (j - 4) = o + j by omega] at this

theorem row_of2 {D : Type} {f : D → List Value} {k : Nat} {w : World} {g : Nat} : ∀ (l : List D) (o : Nat), (∀ d ∈ l, (f d).length = k) → (∀ i (h : i < l.length), RowAt w g (o + i * k) (f l[i])) → RowAt w g o (l.flatMap f)
  | [], o, _, _ => by intro j v hj; simp at hj
  | x :: l, o, hk, h => by
    have h0 := h 0 (by simp)
    rw [Nat.zero_mul, Nat.add_zero] at h0
    have hr := row_of2 l (o + k) (fun d hd => hk d (by simp [hd])) (fun i hi => by
      have := h (i + 1) (by simpa using hi)
      rwa [show o + (i + 1) * k = o + k + i * k by rw [Nat.add_mul]; omega] at this)
    have hx := hk x (by simp)
    intro j v hj
    rw [List.flatMap_cons] at hj
    by_cases hjk : j < k
    · rw [List.getElem?_append_left (by rw [hx]; exact hjk)] at hj
      exact h0 j v hj
    · rw [List.getElem?_append_right (by rw [hx]; omega), hx] at hj
      have := hr (j - k) v hj
      rwa [show o + k + (j - k) = o + j by omega] at this
theorem bytes_of : ∀ (cs : List Value), (∀ i (h : i < cs.length), ∃ n : Int, cs[i] = .int .u8 n ∧ 0 ≤ n ∧ n ≤ 255) → ∃ l : List UInt8, cs = Lib.byteCells l
  | [], _ => ⟨[], rfl⟩
  | c :: cs, h => by
    obtain ⟨n, e, h0, h1⟩ := h 0 (by simp)
    obtain ⟨l, rfl⟩ := bytes_of cs (fun i hi => by have := h (i + 1) (by simpa using hi); simpa using this)
    refine ⟨UInt8.ofNat n.toNat :: l, ?_⟩
    have e2 : ((UInt8.ofNat n.toNat).toNat : Int) = n := by rw [UInt8.toNat_ofNat']; omega
    have e3 : c = .int .u8 n := by simpa using e
    subst e3
    show Value.int .u8 n :: Lib.byteCells l = Value.int .u8 ((UInt8.ofNat n.toNat).toNat : Int) :: Lib.byteCells l
    rw [e2]

section
variable {H : Type} {enc : TypeId × Value → H} {W : World} {base b : Nat} {sp : Nat → Bool} {held : Bool}
theorem hash_open {fuel : Nat} {x : DataW H × List MemPlace} {cs : List Value} (h : DataW.trod enc Tryd.prog W b sp held fuel 24 cs = some x) (hc : cs.length = 32) : ∃ d : List UInt8, d.length = 32 ∧ cs = Lib.byteCells d := by
  obtain ⟨ys, m, _, _, _, hl, hf⟩ := DataW.trod_array Tryd.underlying24 h
  obtain ⟨d, rfl⟩ := bytes_of cs (fun i hi => by
    have := hf i (by omega)
    rw [List.getElem?_eq_getElem (by omega)] at this
    have hk : Tryd.prog.cellsOf 5 = 1 := by kernel_rfl
    rw [hk, Nat.mul_one] at this
    obtain ⟨n, e, _, w0⟩ := DataW.trod_int Tryd.underlying5 this
    refine ⟨n, ?_, ?_⟩
    · have e2 : (cs.drop i).take 1 = [cs[i]] := by rw [List.drop_eq_getElem_cons hi, List.take_succ_cons, List.take_zero]
      rw [e2] at e
      simpa using e
    · simp [Lit.wf, IntKind.min, IntKind.max, IntKind.signed, IntKind.bits] at w0
      exact w0)
  exact ⟨d, by rw [← hc, Lib.byteCells_length], rfl⟩
/-- a slice of hashes, wherever it stands -/
theorem path_open {fuel : Nat} {x : DataW H × List MemPlace} {cs : List Value} (h : DataW.trod enc Tryd.prog W b sp held fuel 44 cs = some x) :
    ∃ (pv : Value) (l : List (List UInt8)), cs = [pv] ∧ (∀ y ∈ l, y.length = 32) ∧ RdP W.heap.size W pv l := by
  rcases DataW.trod_slice Tryd.underlying44 h with ⟨rfl, _⟩ | ⟨a, len, cap, elems, rest, m, _, rfl, _, _, hl, hm, _, hel, hi, _⟩
  · exact ⟨_, [], rfl, by simp, none, 0, rfl, Nat.le_refl _, by unfold maxLen; omega, rfl, Or.inl ⟨trivial, rfl, trivial⟩⟩
  · by_cases h0 : len = 0
    · subst h0
      exact ⟨_, [], rfl, by simp, some a, cap, rfl, Nat.zero_le _, hm, rfl, Or.inl ⟨trivial, rfl, trivial⟩⟩
    have hk : Tryd.prog.cellsOf 24 = 32 := by kernel_rfl
    rw [hk] at hel
    have each : ∀ i, i < len → ∃ cs, W.cells? b (a.add (i * 32)) 32 = some cs ∧ ∃ y, DataW.trod enc Tryd.prog W b sp held m 24 cs = some y := by
      intro i hin
      have h1 := hel i hin
      rw [List.getElem?_eq_getElem (by omega), Option.bind_eq_some_iff] at h1
      obtain ⟨cs, h2, h3⟩ := h1
      exact ⟨cs, h2, _, h3⟩
    obtain ⟨cs0, k1, _⟩ := each 0 (by omega)
    obtain ⟨k2, k3⟩ := cells_two k1
    have k4 := k3 0 (by omega)
    rw [Nat.zero_mul] at k4
    have e0 : (a.add 0).add 0 = a := rfl
    rw [e0, List.getElem?_eq_getElem (by omega)] at k4
    obtain ⟨g, o, s⟩ := a
    have hs : s = none ∧ g < W.heap.size := by
      refine ⟨?_, World.block_lt_of_cell? W _ k4⟩
      unfold World.cell? at k4
      split at k4
      · cases s with
        | none => rfl
        | some q => simp at k4
      · cases k4
    obtain ⟨rfl, hg⟩ := hs
    obtain ⟨l, hll, hq⟩ := list_of (Q := fun i (d : List UInt8) => d.length = 32 ∧ RowAt W g (o + i * 32) (Lib.byteCells d)) len (fun i hin => by
      obtain ⟨cs, h2, y, h3⟩ := each i hin
      obtain ⟨hcl, hc⟩ := cells_two h2
      obtain ⟨d, hd, rfl⟩ := hash_open h3 hcl
      refine ⟨d, hd, ?_⟩
      intro j v hj
      have hj2 : j < 32 := by have := (List.getElem?_eq_some_iff.1 hj).1; rw [Lib.byteCells_length, hd] at this; exact this
      have := hc j hj2
      rw [addr_add, addr_add] at this
      rw [this]; exact hj)
    subst hll
    refine ⟨_, l, rfl, fun d hd => ?_, some ⟨g, o, none⟩, cap, rfl, hl, hm, flat_length Lib.byteCells 32 l (fun d hd => ?_), Or.inr ⟨g, o, rfl, hg, ?_⟩⟩
    · obtain ⟨i, hi2, rfl⟩ := List.getElem_of_mem hd
      exact (hq i hi2).1
    · obtain ⟨i, hi2, rfl⟩ := List.getElem_of_mem hd
      rw [Lib.byteCells_length]; exact (hq i hi2).1
    · refine row_of2 l o (fun d hd => ?_) (fun i hi => (hq i hi).2)
      obtain ⟨i, hi2, rfl⟩ := List.getElem_of_mem hd
      rw [Lib.byteCells_length]; exact (hq i hi2).1

theorem parts_open {g o n k fuel : Nat} {x : DataW H × List MemPlace} (h : DataW.trod enc Tryd.prog W b sp held fuel 39 [.slice (some ⟨g, o, none⟩) n k] = some x) :
    ∃ (ps : List PartD) (cs : List Value), ps.length = n ∧ (∀ d ∈ ps, d.wf) ∧ partsR (RdP W.heap.size W) ps cs ∧ RowAt W g o cs := by
  rcases DataW.trod_slice Tryd.underlying39 h with ⟨h0, _⟩ | ⟨a, len, cap, elems, rest, m, _, e1, _, _, _, _, hel, hi, _⟩
  · simp at h0
  · simp only [List.cons.injEq, Value.slice.injEq, Option.some.injEq, and_true] at e1
    obtain ⟨rfl, rfl, rfl⟩ := e1
    have hk : Tryd.prog.cellsOf 46 = 4 := by kernel_rfl
    rw [hk] at hi
    refine partsR_of n o (fun i hin => ?_)
    have h1 := hi i hin
    rw [List.getElem?_eq_getElem (by omega), Option.bind_eq_some_iff] at h1
    obtain ⟨cs, h2, h3⟩ := h1
    obtain ⟨hcl, hc⟩ := cells_two h2
    obtain ⟨xs, m', _, _, _, hxs, hf⟩ := DataW.trod_struct Tryd.underlying46 h3
    have f0 := hf 0 _ rfl
    have f1 := hf 1 _ rfl
    have f2 := hf 2 _ rfl
    rw [List.getElem?_eq_getElem (by rw [hxs]; decide)] at f0 f1 f2
    match cs, hcl with
    | [c0, c1, c2, c3], _ =>
      obtain ⟨k0, e0, _, w0⟩ := DataW.trod_int Tryd.underlying3 f0
      obtain ⟨ys, m2, _, _, _, hys, hg⟩ := DataW.trod_struct Tryd.underlying43 f1
      have g0 := hg 0 _ rfl
      have g1 := hg 1 _ rfl
      rw [List.getElem?_eq_getElem (by rw [hys]; decide)] at g0 g1
      obtain ⟨s1, e1, _, w1⟩ := DataW.trod_string Tryd.underlying9 g0
      obtain ⟨s2, e2, _, w2⟩ := DataW.trod_string Tryd.underlying9 g1
      obtain ⟨pv, l, e3, hl, hr⟩ := path_open f2
      have e0' : c0 = .int .i64 k0 := by have : [c0] = [Value.int .i64 k0] := e0; simpa using this
      have e1' : c1 = .string s1 := by have : [c1] = [Value.string s1] := e1; simpa using this
      have e2' : c2 = .string s2 := by have : [c2] = [Value.string s2] := e2; simpa using this
      have e3' : c3 = pv := by have : [c3] = [pv] := e3; simpa using this
      subst e0' e1' e2' e3'
      refine ⟨⟨k0, s1, s2, l⟩, c3, ⟨lit_i64 w0, w1, w2, hl⟩, hr, ?_⟩
      intro j v hj
      have hj2 : j < 4 := (List.getElem?_eq_some_iff.1 hj).1
      have := hc j hj2
      rw [addr_add, addr_add] at this
      rw [this]; exact hj

/-- a proof that came in -/
theorem proof_open {v : Value} {d : DataW H} {ps : List MemPlace} (h : Value.okWide Tryd.prog W .any base 41 v) (ht : DataW.Trod enc Tryd.prog W b sp held 41 v d ps) :
    ∃ (p : ProofD) (cs : List Value), p.wf ∧ v = .agg cs.toArray ∧ p.rep W.heap.size W cs := by
  obtain ⟨cs, rfl, hc⟩ := cells_open h (by kernel_rfl) proof_types (by kernel_rfl)
  obtain ⟨c0, r0, rfl, h0, hc⟩ := cellsOk_cons hc
  obtain ⟨c1, r1, rfl, h1, hc⟩ := cellsOk_cons hc
  obtain rfl := cellsOk_nil hc
  obtain ⟨n0, rfl, q0⟩ := i64_cell Tryd.underlying3 h0
  obtain ⟨ao, n, k, rfl, hnk, hk, hs⟩ := slice_cell Tryd.underlying39 h1
  obtain ⟨fuel, ht⟩ := ht
  obtain ⟨xs, m, _, _, _, hxs, hf⟩ := DataW.trod_struct Tryd.underlying41 ht
  have f1 := hf 1 _ rfl
  rw [List.getElem?_eq_getElem (by rw [hxs]; decide)] at f1
  rcases hs with ⟨rfl, rfl, rfl⟩ | ⟨g, o, rfl, hg⟩
  · exact ⟨⟨n0, []⟩, _, ⟨q0, by simp⟩, rfl, _, [], ⟨none, 0, rfl, Nat.le_refl _, hk, rfl, Or.inl ⟨rfl, rfl, rfl⟩⟩, rfl, rfl⟩
  · obtain ⟨_, f1'⟩ : ∃ z, DataW.trod enc Tryd.prog W b sp held m 39 [.slice (some ⟨g, o, none⟩) n k] = some z := ⟨_, f1⟩
    obtain ⟨ds, ccs, k1, k2, k3, k4⟩ := parts_open f1'
    subst k1
    exact ⟨⟨n0, ds⟩, _, ⟨q0, k2⟩, rfl, _, ccs, ⟨_, k, rfl, hnk, hk, k3.len, Or.inr ⟨g, o, rfl, hg, k4⟩⟩, k3, rfl⟩
end

end Go.Proofs.YtaffpgafbjhahaaDoor
