/- What comes in: light blocks, with their lists, wherever they stand; pairs and slices of them. What comes in: floats, options, pairs of light blocks. What comes in: a pair of light blocks, with the lengths of its chains' names. What comes in: light blocks, with their chains' names' lengths; acts of nunciolaw19's scripts, with their proofs. -/
import Derived.Test.YtbhghlendbcejaaGreatDoorLts
import Derived.Test.YtbhghlendbcejaaGreatDoorOpen
import Derived.Test.YtbhghlendbcejaaGreatDoorSlc
import Derived.Test.YtbhghlendbcejaaGreatDoorOpenH
import Derived.Test.YtbhghlendbcejaaGreatDoorVf
import Derived.Test.YtbhghlendbcejaaGreatDoorLx
import Derived.Test.YtbhghlendbcejaaGreatDoorClk
namespace Go.Proofs.YtbhghlendbcejaaGreatDoor
open Go.RowKit Go.ChangeShapes Go.WideShapes
set_option maxRecDepth 100000

section
variable {H : Type} {enc : TypeId × Value → H} {W : World} {base b : Nat} {sp : Nat → Bool} {held : Bool}
theorem row_ofK {D : Type} {f : D → List Value} {k : Nat} {w : World} {g : Nat} (l : List D) (o : Nat) (hk : ∀ d ∈ l, (f d).length = k) (h : ∀ i (h : i < l.length), RowAt w g (o + i * k) (f l[i])) : RowAt w g o (l.flatMap f) := row_of' l o hk h
/-- a slice of things of k cells each, wherever it stands -/
theorem slice_rows {D : Type} {t e : TypeId} {k : Nat} (f : D → List Value) (wf : D → Prop) (hu : Tryz.prog.underlying t = some (.slice e)) (hk : Tryz.prog.cellsOf e = k) (hk0 : 0 < k)
    (elem : ∀ fuel cs x, DataW.trod enc Tryz.prog W b sp held fuel e cs = some x → cs.length = k → ∃ d, wf d ∧ cs = f d)
    {fuel : Nat} {x : DataW H × List MemPlace} {cs : List Value} (h : DataW.trod enc Tryz.prog W b sp held fuel t cs = some x) :
    ∃ (sv : Value) (ds : List D), cs = [sv] ∧ (∀ d ∈ ds, wf d) ∧ RdS W.heap.size W sv ds.length k (ds.flatMap f) := by
  rcases DataW.trod_slice hu h with ⟨rfl, _⟩ | ⟨a, len, cap, elems, rest, m, _, rfl, _, _, hl, hm, _, hel, hi, _⟩
  · exact ⟨_, [], rfl, by simp, none, 0, rfl, Nat.le_refl _, by unfold maxLen; omega, by simp, Or.inl rfl⟩
  · by_cases h0 : len = 0
    · subst h0
      exact ⟨_, [], rfl, by simp, some a, cap, rfl, Nat.zero_le _, hm, by simp, Or.inl rfl⟩
    rw [hk] at hel
    have each : ∀ i, i < len → ∃ cs, W.cells? b (a.add (i * k)) k = some cs ∧ ∃ y, DataW.trod enc Tryz.prog W b sp held m e cs = some y := by
      intro i hin
      have h1 := hel i hin
      rw [List.getElem?_eq_getElem (by omega), Option.bind_eq_some_iff] at h1
      obtain ⟨cs, h2, h3⟩ := h1
      exact ⟨cs, h2, _, h3⟩
    obtain ⟨cs0, k1, _⟩ := each 0 (by omega)
    obtain ⟨k2, k3⟩ := cells_two k1
    have k4 := k3 0 (by omega)
    rw [Nat.zero_mul] at k4
    have e0 : (a.add 0).add 0 = a := rfl
    rw [e0, List.getElem?_eq_getElem (by omega)] at k4
    obtain ⟨g, o, s⟩ := a
    have hs : s = none ∧ g < W.heap.size := by
      refine ⟨?_, World.block_lt_of_cell? W _ k4⟩
      unfold World.cell? at k4
      split at k4
      · cases s with
        | none => rfl
        | some q => simp at k4
      · cases k4
    obtain ⟨rfl, hg⟩ := hs
    obtain ⟨l, hll, hq⟩ := list_of (Q := fun i (d : D) => wf d ∧ (f d).length = k ∧ RowAt W g (o + i * k) (f d)) len (fun i hin => by
      obtain ⟨cs, h2, y, h3⟩ := each i hin
      obtain ⟨hcl, hc⟩ := cells_two h2
      obtain ⟨d, hd, rfl⟩ := elem _ _ _ h3 hcl
      refine ⟨d, hd, hcl, ?_⟩
      intro j v hj
      have hj2 : j < k := by have := (List.getElem?_eq_some_iff.1 hj).1; rw [hcl] at this; exact this
      have := hc j hj2
      rw [addr_add, addr_add] at this
      rw [this]; exact hj)
    subst hll
    have hw : ∀ d ∈ l, wf d ∧ (f d).length = k := fun d hd => by
      obtain ⟨i, hi2, rfl⟩ := List.getElem_of_mem hd
      exact ⟨(hq i hi2).1, (hq i hi2).2.1⟩
    exact ⟨_, l, rfl, fun d hd => (hw d hd).1, some ⟨g, o, none⟩, cap, rfl, hl, hm, flat_length f k l (fun d hd => (hw d hd).2), Or.inr ⟨g, o, rfl, hg, row_ofK l o (fun d hd => (hw d hd).2) (fun i hi => (hq i hi).2.2)⟩⟩
theorem val_trod {fuel : Nat} {cs : List Value} {x : DataW H × List MemPlace} (h : DataW.trod enc Tryz.prog W b sp held fuel 131 cs = some x) (hcl : cs.length = 2) : ∃ d : ValD, d.wf ∧ cs = d.cells := by
  obtain ⟨xs, m', _, _, _, hxs, hf⟩ := DataW.trod_struct Tryz.underlying131 h
  have f0 := hf 0 _ rfl
  have f1 := hf 1 _ rfl
  rw [List.getElem?_eq_getElem (by rw [hxs]; decide)] at f0 f1
  match cs, hcl with
  | [c0, c1], _ =>
    obtain ⟨k0, e0, _, w0⟩ := DataW.trod_int Tryz.underlying111 f0
    obtain ⟨k1, e1, _, w1⟩ := DataW.trod_int Tryz.underlying3 f1
    have e0' : c0 = .int .u64 k0 := by have : [c0] = [Value.int .u64 k0] := e0; simpa using this
    have e1' : c1 = .int .i64 k1 := by have : [c1] = [Value.int .i64 k1] := e1; simpa using this
    subst e0' e1'
    exact ⟨⟨k0, k1⟩, ⟨lit_u64 w0, lit_i64 w1⟩, rfl⟩
theorem seal_trod {fuel : Nat} {cs : List Value} {x : DataW H × List MemPlace} (h : DataW.trod enc Tryz.prog W b sp held fuel 128 cs = some x) (hcl : cs.length = 3) : ∃ d : SealD, d.wf ∧ cs = d.cells := by
  obtain ⟨xs, m', _, _, _, hxs, hf⟩ := DataW.trod_struct Tryz.underlying128 h
  have f0 := hf 0 _ rfl
  have f1 := hf 1 _ rfl
  rw [List.getElem?_eq_getElem (by rw [hxs]; decide)] at f0 f1
  match cs, hcl with
  | [c0, c1, c2], _ =>
    obtain ⟨k0, e0, _, w0⟩ := DataW.trod_int Tryz.underlying111 f0
    obtain ⟨ys, m2, _, _, _, hys, hg⟩ := DataW.trod_struct Tryz.underlying126 f1
    have g0 := hg 0 _ rfl
    have g1 := hg 1 _ rfl
    rw [List.getElem?_eq_getElem (by rw [hys]; decide)] at g0 g1
    obtain ⟨k1, e1, _, w1⟩ := DataW.trod_int Tryz.underlying111 g0
    obtain ⟨k2, e2, _, w2⟩ := DataW.trod_int Tryz.underlying111 g1
    have e0' : c0 = .int .u64 k0 := by have : [c0] = [Value.int .u64 k0] := e0; simpa using this
    have e1' : c1 = .int .u64 k1 := by have : [c1] = [Value.int .u64 k1] := e1; simpa using this
    have e2' : c2 = .int .u64 k2 := by have : [c2] = [Value.int .u64 k2] := e2; simpa using this
    subst e0' e1' e2'
    exact ⟨⟨k0, k1, k2⟩, ⟨lit_u64 w0, lit_u64 w1, lit_u64 w2⟩, rfl⟩
theorem vals_trod {fuel : Nat} {x : DataW H × List MemPlace} {cs : List Value} (h : DataW.trod enc Tryz.prog W b sp held fuel 29 cs = some x) :
    ∃ (sv : Value) (ds : List ValD), cs = [sv] ∧ (∀ d ∈ ds, d.wf) ∧ RdS W.heap.size W sv ds.length 2 (setCells ds) :=
  slice_rows ValD.cells ValD.wf Tryz.underlying29 (by kernel_rfl) (by decide) (fun _ _ _ h hc => val_trod h hc) h
theorem seals_trod {fuel : Nat} {x : DataW H × List MemPlace} {cs : List Value} (h : DataW.trod enc Tryz.prog W b sp held fuel 26 cs = some x) :
    ∃ (sv : Value) (ds : List SealD), cs = [sv] ∧ (∀ d ∈ ds, d.wf) ∧ RdS W.heap.size W sv ds.length 3 (sealCells ds) :=
  slice_rows SealD.cells SealD.wf Tryz.underlying26 (by kernel_rfl) (by decide) (fun _ _ _ h hc => seal_trod h hc) h
/-- a light block, wherever it stands -/
theorem light_trodD {fuel : Nat} {cs : List Value} {x : DataW H × List MemPlace} (h : DataW.trod enc Tryz.prog W b sp held fuel 31 cs = some x) : ∃ l : LightD, l.wf ∧ l.rep W.heap.size W cs := by
  obtain ⟨xs, m, _, _, hcl, hxs, hf⟩ := DataW.trod_struct Tryz.underlying31 h
  rw [show Tryz.prog.cellsOf 31 = 200 by kernel_rfl] at hcl
  have f0 := hf 0 _ rfl; have f1 := hf 1 _ rfl; have f2 := hf 2 _ rfl; have f3 := hf 3 _ rfl
  rw [List.getElem?_eq_getElem (by rw [hxs]; decide)] at f0 f1 f2 f3
  obtain ⟨d, hd, e0⟩ := header_trod f0
  obtain ⟨ys, m', _, _, hcl1, hys, hg⟩ := DataW.trod_struct Tryz.underlying28 f1
  have g0 := hg 0 _ rfl; have g1 := hg 1 _ rfl; have g2 := hg 2 _ rfl; have g3 := hg 3 _ rfl
  rw [List.getElem?_eq_getElem (by rw [hys]; decide)] at g0 g1 g2 g3
  obtain ⟨n1, c1, _, q1⟩ := DataW.trod_int Tryz.underlying3 g0
  obtain ⟨n2, c2, _, q2⟩ := DataW.trod_int Tryz.underlying3 g1
  obtain ⟨bl, q3, c3⟩ := hash_trod g2
  obtain ⟨sv, ss, c4, sw, sr⟩ := seals_trod g3
  obtain ⟨tv, vs, c5, vw, vr⟩ := vals_trod f2
  obtain ⟨nv, ns, c6, nw, nr⟩ := vals_trod f3
  have k0 : (cs.drop 0).take 163 = d.cells := by have : (cs.drop 0).take (Tryz.prog.cellsOf 25) = d.cells := e0; rwa [header_size_num] at this
  obtain ⟨cm, hcm⟩ : ∃ cm, (cs.drop 163).take 35 = cm := ⟨_, rfl⟩
  have hcm' : (cs.drop 163).take (Tryz.prog.cellsOf 28) = cm := by rw [commit_size_num]; exact hcm
  have d1 : (cm.drop 0).take 1 = [.int .i64 n1] := by have : (((cs.drop 163).take (Tryz.prog.cellsOf 28)).drop 0).take (Tryz.prog.cellsOf 3) = [.int .i64 n1] := c1; rwa [int_size_num, hcm'] at this
  have d2 : (cm.drop 1).take 1 = [.int .i64 n2] := by have : (((cs.drop 163).take (Tryz.prog.cellsOf 28)).drop 1).take (Tryz.prog.cellsOf 3) = [.int .i64 n2] := c2; rwa [int_size_num, hcm'] at this
  have d3 : (cm.drop 2).take 32 = Lib.byteCells bl := by have : (((cs.drop 163).take (Tryz.prog.cellsOf 28)).drop 2).take (Tryz.prog.cellsOf 23) = Lib.byteCells bl := c3; rwa [hash_size_num, hcm'] at this
  have d4 : (cm.drop 34).take 1 = [sv] := by have : (((cs.drop 163).take (Tryz.prog.cellsOf 28)).drop 34).take (Tryz.prog.cellsOf 26) = [sv] := c4; rwa [seals_size_num, hcm'] at this
  have k2 : (cs.drop 198).take 1 = [tv] := by have : (cs.drop 198).take (Tryz.prog.cellsOf 29) = [tv] := c5; rwa [vals_size_num] at this
  have k3 : (cs.drop 199).take 1 = [nv] := by have : (cs.drop 199).take (Tryz.prog.cellsOf 29) = [nv] := c6; rwa [vals_size_num] at this
  have hcml : cm.length = 35 := by rw [← hcm]; simp; omega
  refine ⟨⟨d, ⟨n1, n2, bl, ss⟩, vs, ns⟩, ⟨hd, ⟨lit_i64 q1, lit_i64 q2, q3, sw⟩, vw, nw⟩, cm, tv, nv, ⟨sv, sr, ?_⟩, vr, nr, ?_⟩
  · rw [cut4 cm hcml, d1, d2, d3, d4]; simp
  · rw [cut3 cs hcl, k0, k2, k3, hcm]; simp
/-- the cells of a light block, with what they stand for -/
structure LtB where
  l : LightD
  cs : List Value
def LtB.at_ (W : World) (B : Nat) (d : LtB) : Prop := d.l.wf ∧ d.l.rep B W d.cs
theorem lights_trodD {fuel : Nat} {x : DataW H × List MemPlace} {cs : List Value} (h : DataW.trod enc Tryz.prog W b sp held fuel 54 cs = some x) :
    ∃ (sv : Value) (ds : List LtB), cs = [sv] ∧ (∀ d ∈ ds, d.at_ W W.heap.size) ∧ RdS W.heap.size W sv ds.length 200 (ds.flatMap LtB.cs) :=
  slice_rows LtB.cs (LtB.at_ W W.heap.size) Tryz.underlying54 (by kernel_rfl) (by decide) (fun _ cs _ h _ => by
    obtain ⟨l, h1, h2⟩ := light_trodD h
    exact ⟨⟨l, cs⟩, ⟨h1, h2⟩, rfl⟩) h
end

theorem f64_cell {P : Program} {W : World} {base : Nat} {t : TypeId} {c : Value} (hu : P.underlying t = some (.float .f64)) (h : Cell.okWide P W .any base t c) : ∃ x : Nat, c = .float .f64 x ∧ x < 18446744073709551616 := by
  unfold Cell.okWide at h
  rw [hu] at h
  unfold Cell.ok at h
  rw [hu] at h
  cases c with
  | float k x =>
    obtain ⟨rfl, hx⟩ := h
    exact ⟨x, rfl, by simpa [FloatKind.has] using hx⟩
  | _ => simp at h
section
variable {H : Type} {enc : TypeId × Value → H} {W : World} {base b : Nat} {sp : Nat → Bool} {held : Bool}
theorem f64_open {v : Value} (h : Value.okWide Tryz.prog W .any base 41 v) : ∃ x : Nat, v = .float .f64 x ∧ x < 18446744073709551616 := by
  unfold Value.okWide at h
  rw [Tryz.underlying41] at h
  exact f64_cell Tryz.underlying41 h
theorem opt_types : Tryz.prog.cellTypes Tryz.prog.depth 43 = some [41, 41, 41] := by kernel_rfl
theorem opt_open {v : Value} (h : Value.okWide Tryz.prog W .any base 43 v) : ∃ o : OptD, o.wf ∧ v = .agg o.cells.toArray := by
  obtain ⟨cs, rfl, hc⟩ := cells_open h (by kernel_rfl) opt_types (by kernel_rfl)
  obtain ⟨c0, r0, rfl, h0, hc⟩ := cellsOk_cons hc
  obtain ⟨c1, r1, rfl, h1, hc⟩ := cellsOk_cons hc
  obtain ⟨c2, r2, rfl, h2, hc⟩ := cellsOk_cons hc
  obtain rfl := cellsOk_nil hc
  obtain ⟨x, rfl, q0⟩ := f64_cell Tryz.underlying41 h0
  obtain ⟨y, rfl, q1⟩ := f64_cell Tryz.underlying41 h1
  obtain ⟨z, rfl, q2⟩ := f64_cell Tryz.underlying41 h2
  exact ⟨⟨x, y, z⟩, ⟨q0, q1, q2⟩, rfl⟩
theorem cells_split (cs : List Value) (h : cs.length = 400) : cs = (cs.drop (0 * 200)).take 200 ++ (cs.drop (1 * 200)).take 200 := by
  have e : (cs.drop (1 * 200)).take 200 = cs.drop 200 := List.take_of_length_le (by simp; omega)
  rw [e]
  simp [List.take_append_drop]
theorem trod_float {fuel : Nat} {k : FloatKind} {t : TypeId} {cs : List Value} {x : DataW H × List MemPlace} (ht : Tryz.prog.underlying t = some (.float k)) (h : DataW.trod enc Tryz.prog W b sp held fuel t cs = some x) : ∃ n, cs = [.float k n] ∧ (Lit.float k n).wf = true := by
  cases fuel with
  | zero => simp [DataW.trod] at h
  | succ n =>
    unfold DataW.trod at h
    rw [ht] at h
    split at h <;> simp_all
end

theorem weightsAll_mem {H : Type} {P : Program} {e : TypeId} : ∀ {ds : List (DataW H)} {j : Nat} {d : DataW H}, ds[j]? = some d → ∀ n ∈ d.weights P e, n ∈ DataW.weightsAll P e ds
  | d0 :: ds, 0, d, hd, n, hn => by
    simp only [List.getElem?_cons_zero, Option.some.injEq] at hd
    subst hd
    simp only [DataW.weightsAll, List.mem_append]
    exact Or.inl hn
  | d0 :: ds, j + 1, d, hd, n, hn => by
    simp only [List.getElem?_cons_succ] at hd
    simp only [DataW.weightsAll, List.mem_append]
    exact Or.inr (weightsAll_mem hd n hn)
  | [], _, _, hd, _, _ => by simp at hd
section
variable {H : Type} {enc : TypeId × Value → H} {W : World} {base b : Nat} {sp : Nat → Bool} {held : Bool}
theorem light_chain_at {B fuel : Nat} {l : LightD} {cs : List Value} {x : DataW H × List MemPlace} (hl : l.wf) (hr : l.rep B W cs) (h : DataW.trod enc Tryz.prog W b sp held fuel 31 cs = some x) : l.header.chain.size ∈ x.1.weights Tryz.prog 31 := by
  refine field_weight Tryz.underlying31 h 0 rfl ?_
  intro m y hy
  show l.header.chain.size ∈ y.1.weights Tryz.prog 25
  refine header_chain_at (enc := enc) (W := W) (b := b) (sp := sp) (held := held) (x := y) (d := l.header) (fuel := m) (Eq.trans ?_ hy)
  obtain ⟨cc, sv, nv, _, _, _, rfl⟩ := hr
  have e0 := l.header.cells_length hl.header
  have e : ((l.header.cells ++ cc ++ [sv, nv]).drop 0).take (Tryz.prog.cellsOf 25) = l.header.cells := by
    rw [header_cells_num]
    simp only [List.drop_zero, List.append_assoc]
    rw [List.take_append_of_le_length (by omega), List.take_of_length_le (by omega)]
  exact congrArg (DataW.trod enc Tryz.prog W b sp held m 25) e.symm
end

theorem row_of2 {D : Type} {f : D → List Value} {k : Nat} {w : World} {g : Nat} : ∀ (l : List D) (o : Nat), (∀ d ∈ l, (f d).length = k) → (∀ i (h : i < l.length), RowAt w g (o + i * k) (f l[i])) → RowAt w g o (l.flatMap f)
  | [], o, _, _ => by intro j v hj; simp at hj
  | x :: l, o, hk, h => by
    have h0 := h 0 (by simp)
    rw [Nat.zero_mul, Nat.add_zero] at h0
    have hr := row_of2 l (o + k) (fun d hd => hk d (by simp [hd])) (fun i hi => by
      have := h (i + 1) (by simpa using hi)
      rwa [show o + (i + 1) * k = o + k + i * k by rw [Nat.add_mul]; omega] at this)
    have hx := hk x (by simp)
    intro j v hj
    rw [List.flatMap_cons] at hj
    by_cases hjk : j < k
    · rw [List.getElem?_append_left (by rw [hx]; exact hjk)] at hj
      exact h0 j v hj
    · rw [List.getElem?_append_right (by rw [hx]; omega), hx] at hj
      have := hr (j - k) v hj
      rwa [show o + k + (j - k) = o + j by omega] at this
theorem bytes_of : ∀ (cs : List Value), (∀ i (h : i < cs.length), ∃ n : Int, cs[i] = .int .u8 n ∧ 0 ≤ n ∧ n ≤ 255) → ∃ l : List UInt8, cs = Lib.byteCells l
  | [], _ => ⟨[], rfl⟩
  | c :: cs, h => by
    obtain ⟨n, e, h0, h1⟩ := h 0 (by simp)
    obtain ⟨l, rfl⟩ := bytes_of cs (fun i hi => by have := h (i + 1) (by simpa using hi); simpa using this)
    refine ⟨UInt8.ofNat n.toNat :: l, ?_⟩
    have e2 : ((UInt8.ofNat n.toNat).toNat : Int) = n := by rw [UInt8.toNat_ofNat']; omega
    have e3 : c = .int .u8 n := by simpa using e
    subst e3
    show Value.int .u8 n :: Lib.byteCells l = Value.int .u8 ((UInt8.ofNat n.toNat).toNat : Int) :: Lib.byteCells l
    rw [e2]

section
variable {H : Type} {enc : TypeId × Value → H} {W : World} {base b : Nat} {sp : Nat → Bool} {held : Bool}
theorem hash_open {fuel : Nat} {x : DataW H × List MemPlace} {cs : List Value} (h : DataW.trod enc Tryz.prog W b sp held fuel 23 cs = some x) (hc : cs.length = 32) : ∃ d : List UInt8, d.length = 32 ∧ cs = Lib.byteCells d := by
  obtain ⟨ys, m, _, _, _, hl, hf⟩ := DataW.trod_array Tryz.underlying23 h
  obtain ⟨d, rfl⟩ := bytes_of cs (fun i hi => by
    have := hf i (by omega)
    rw [List.getElem?_eq_getElem (by omega)] at this
    have hk : Tryz.prog.cellsOf 5 = 1 := by kernel_rfl
    rw [hk, Nat.mul_one] at this
    obtain ⟨n, e, _, w0⟩ := DataW.trod_int Tryz.underlying5 this
    refine ⟨n, ?_, ?_⟩
    · have e2 : (cs.drop i).take 1 = [cs[i]] := by rw [List.drop_eq_getElem_cons hi, List.take_succ_cons, List.take_zero]
      rw [e2] at e
      simpa using e
    · simp [Lit.wf, IntKind.min, IntKind.max, IntKind.signed, IntKind.bits] at w0
      exact w0)
  exact ⟨d, by rw [← hc, Lib.byteCells_length], rfl⟩
/-- a slice of hashes, wherever it stands -/
theorem path_open {fuel : Nat} {x : DataW H × List MemPlace} {cs : List Value} (h : DataW.trod enc Tryz.prog W b sp held fuel 91 cs = some x) :
    ∃ (pv : Value) (l : List (List UInt8)), cs = [pv] ∧ (∀ y ∈ l, y.length = 32) ∧ RdP W.heap.size W pv l := by
  rcases DataW.trod_slice Tryz.underlying91 h with ⟨rfl, _⟩ | ⟨a, len, cap, elems, rest, m, _, rfl, _, _, hl, hm, _, hel, hi, _⟩
  · exact ⟨_, [], rfl, by simp, none, 0, rfl, Nat.le_refl _, by unfold maxLen; omega, rfl, Or.inl ⟨trivial, rfl, trivial⟩⟩
  · by_cases h0 : len = 0
    · subst h0
      exact ⟨_, [], rfl, by simp, some a, cap, rfl, Nat.zero_le _, hm, rfl, Or.inl ⟨trivial, rfl, trivial⟩⟩
    have hk : Tryz.prog.cellsOf 23 = 32 := by kernel_rfl
    rw [hk] at hel
    have each : ∀ i, i < len → ∃ cs, W.cells? b (a.add (i * 32)) 32 = some cs ∧ ∃ y, DataW.trod enc Tryz.prog W b sp held m 23 cs = some y := by
      intro i hin
      have h1 := hel i hin
      rw [List.getElem?_eq_getElem (by omega), Option.bind_eq_some_iff] at h1
      obtain ⟨cs, h2, h3⟩ := h1
      exact ⟨cs, h2, _, h3⟩
    obtain ⟨cs0, k1, _⟩ := each 0 (by omega)
    obtain ⟨k2, k3⟩ := cells_two k1
    have k4 := k3 0 (by omega)
    rw [Nat.zero_mul] at k4
    have e0 : (a.add 0).add 0 = a := rfl
    rw [e0, List.getElem?_eq_getElem (by omega)] at k4
    obtain ⟨g, o, s⟩ := a
    have hs : s = none ∧ g < W.heap.size := by
      refine ⟨?_, World.block_lt_of_cell? W _ k4⟩
      unfold World.cell? at k4
      split at k4
      · cases s with
        | none => rfl
        | some q => simp at k4
      · cases k4
    obtain ⟨rfl, hg⟩ := hs
    obtain ⟨l, hll, hq⟩ := list_of (Q := fun i (d : List UInt8) => d.length = 32 ∧ RowAt W g (o + i * 32) (Lib.byteCells d)) len (fun i hin => by
      obtain ⟨cs, h2, y, h3⟩ := each i hin
      obtain ⟨hcl, hc⟩ := cells_two h2
      obtain ⟨d, hd, rfl⟩ := hash_open h3 hcl
      refine ⟨d, hd, ?_⟩
      intro j v hj
      have hj2 : j < 32 := by have := (List.getElem?_eq_some_iff.1 hj).1; rw [Lib.byteCells_length, hd] at this; exact this
      have := hc j hj2
      rw [addr_add, addr_add] at this
      rw [this]; exact hj)
    subst hll
    refine ⟨_, l, rfl, fun d hd => ?_, some ⟨g, o, none⟩, cap, rfl, hl, hm, flat_length Lib.byteCells 32 l (fun d hd => ?_), Or.inr ⟨g, o, rfl, hg, ?_⟩⟩
    · obtain ⟨i, hi2, rfl⟩ := List.getElem_of_mem hd
      exact (hq i hi2).1
    · obtain ⟨i, hi2, rfl⟩ := List.getElem_of_mem hd
      rw [Lib.byteCells_length]; exact (hq i hi2).1
    · refine row_of2 l o (fun d hd => ?_) (fun i hi => (hq i hi).2)
      obtain ⟨i, hi2, rfl⟩ := List.getElem_of_mem hd
      rw [Lib.byteCells_length]; exact (hq i hi2).1

/-- light blocks that came in -/
theorem lights_came {v : Value} {d : DataW H} {ps : List MemPlace} (h : Value.okWide Tryz.prog W .any base 54 v) (ht : DataW.Trod enc Tryz.prog W b sp held 54 v d ps) :
    ∃ xs : List LtR, RdS W.heap.size W v xs.length 200 (ltsCells xs) ∧ (∀ x ∈ xs, (∃ l, x.of W.heap.size W l ∧ l.wf ∧ l.header.chain.size ∈ d.weights Tryz.prog 54)) ∧ (xs.length = 0 ∨ ∃ z ∈ d.weights Tryz.prog 54, xs.length * 312 ≤ z) := by
  have hc : Cell.okWide Tryz.prog W .any base 54 v := by
    unfold Value.okWide at h
    rw [Tryz.underlying54] at h
    exact h
  obtain ⟨ao, n, k, rfl, h1, h2, h3⟩ := slice_cell Tryz.underlying54 hc
  rcases h3 with ⟨rfl, rfl, rfl⟩ | ⟨g, o, rfl, hg⟩
  · exact ⟨[], ⟨none, 0, rfl, Nat.le_refl _, h2, rfl, Or.inl rfl⟩, by simp, .inl rfl⟩
  · obtain ⟨fuel, ht⟩ := ht
    rcases DataW.trod_slice Tryz.underlying54 ht with ⟨h0, _⟩ | ⟨a, len, cap, elems, rest, m, _, e1, e2, _, _, _, hel, hi, _⟩
    · simp [Value.cells] at h0
    · simp only [Value.cells, List.cons.injEq, Value.slice.injEq, Option.some.injEq, and_true] at e1
      obtain ⟨rfl, rfl, rfl⟩ := e1
      rw [light_cells_num] at hi
      have hd : d = .slice (elems.map (·.1)) (rest.map (·.1)) := congrArg Prod.fst e2
      have hz : (elems.length + rest.length) * 312 ∈ d.weights Tryz.prog 54 := by
        rw [hd]
        unfold DataW.weights
        rw [Tryz.underlying54]
        simp only [List.mem_cons, List.length_map]
        exact Or.inl (by rw [show Tryz.prog.bytesOf 31 = 312 by kernel_rfl])
      have hm : ∀ (i : Nat) (y : DataW H × List MemPlace) (z : Nat), elems[i]? = some y → z ∈ y.1.weights Tryz.prog 31 → z ∈ d.weights Tryz.prog 54 := fun i y z hy hz => by
        rw [hd]
        unfold DataW.weights
        rw [Tryz.underlying54]
        simp only [List.mem_cons, List.mem_append]
        exact Or.inr (Or.inl (weightsAll_mem (j := i) (by rw [List.getElem?_map, hy]; rfl) _ hz))
      obtain ⟨l, hl, hq⟩ := list_of (Q := fun i (x : LtR) => (x.wf ∧ RowAt W g (o + i * 200) x.cells) ∧ ∃ l, x.of W.heap.size W l ∧ l.wf ∧ l.header.chain.size ∈ d.weights Tryz.prog 54) n (fun i hin => by
        have h1 := hi i hin
        rw [List.getElem?_eq_getElem (by omega), Option.bind_eq_some_iff] at h1
        obtain ⟨cs, h2, h3⟩ := h1
        obtain ⟨hcl, hc⟩ := cells_two h2
        obtain ⟨y, lw, lr⟩ := light_trodD h3
        have hwt := hm i _ _ (List.getElem?_eq_getElem (by omega)) (light_chain_at lw lr h3)
        obtain ⟨x, hx, rfl, ox⟩ := rep_lt lr lw
        refine ⟨x, ⟨hx, ?_⟩, y, ox, lw, hwt⟩
        intro j v hj
        have hj2 : j < 200 := by have := (List.getElem?_eq_some_iff.1 hj).1; omega
        have := hc j hj2
        rw [addr_add, addr_add] at this
        rw [this]; exact hj)
      have hw : ∀ d ∈ l, d.wf := fun d hd => by
        obtain ⟨i, hi2, rfl⟩ := List.getElem_of_mem hd
        exact (hq i hi2).1.1
      subst hl
      refine ⟨l, ⟨_, k, rfl, h1, h2, flat_length LtR.cells 200 l (fun d hd => d.cells_length (hw d hd)), Or.inr ⟨g, o, rfl, hg, row_of' l o (fun d hd => d.cells_length (hw d hd)) (fun i hi => (hq i hi).1.2)⟩⟩, fun x hx => ?_, .inr ⟨_, hz, by omega⟩⟩
      obtain ⟨i, hi2, rfl⟩ := List.getElem_of_mem hx
      exact (hq i hi2).2
theorem part_trod {fuel : Nat} {cs : List Value} {x : DataW H × List MemPlace} (h : DataW.trod enc Tryz.prog W b sp held fuel 93 cs = some x) (hcl : cs.length = 4) :
    ∃ d : PartD × Value, (d.1.wf ∧ RdP W.heap.size W d.2 d.1.path) ∧ cs = d.1.cells d.2 := by
  obtain ⟨xs, m', _, _, _, hxs, hf⟩ := DataW.trod_struct Tryz.underlying93 h
  have f0 := hf 0 _ rfl
  have f1 := hf 1 _ rfl
  have f2 := hf 2 _ rfl
  rw [List.getElem?_eq_getElem (by rw [hxs]; decide)] at f0 f1 f2
  match cs, hcl with
  | [c0, c1, c2, c3], _ =>
    obtain ⟨k0, e0, _, w0⟩ := DataW.trod_int Tryz.underlying3 f0
    obtain ⟨ys, m2, _, _, _, hys, hg⟩ := DataW.trod_struct Tryz.underlying90 f1
    have g0 := hg 0 _ rfl
    have g1 := hg 1 _ rfl
    rw [List.getElem?_eq_getElem (by rw [hys]; decide)] at g0 g1
    obtain ⟨s1, e1, _, w1⟩ := DataW.trod_string Tryz.underlying9 g0
    obtain ⟨s2, e2, _, w2⟩ := DataW.trod_string Tryz.underlying9 g1
    obtain ⟨pv, l, e3, hl, hr⟩ := path_open f2
    have e0' : c0 = .int .i64 k0 := by have : [c0] = [Value.int .i64 k0] := e0; simpa using this
    have e1' : c1 = .string s1 := by have : [c1] = [Value.string s1] := e1; simpa using this
    have e2' : c2 = .string s2 := by have : [c2] = [Value.string s2] := e2; simpa using this
    have e3' : c3 = pv := by have : [c3] = [pv] := e3; simpa using this
    subst e0' e1' e2' e3'
    exact ⟨(⟨k0, s1, s2, l⟩, c3), ⟨⟨lit_i64 w0, w1, w2, hl⟩, hr⟩, rfl⟩
theorem partsR_rows {R : Value → List (List UInt8) → Prop} : ∀ ds : List (PartD × Value), (∀ d ∈ ds, R d.2 d.1.path) → partsR R (ds.map (·.1)) (ds.flatMap fun d => d.1.cells d.2)
  | [], _ => rfl
  | d :: ds, h => ⟨d.2, _, h d (by simp), partsR_rows ds (fun e he => h e (by simp [he])), rfl⟩
theorem proof_trod {fuel : Nat} {cs : List Value} {x : DataW H × List MemPlace} (h : DataW.trod enc Tryz.prog W b sp held fuel 46 cs = some x) (hcl : cs.length = 2) :
    ∃ p : ProofD, p.wf ∧ p.rep W.heap.size W cs := by
  obtain ⟨xs, m', _, _, _, hxs, hf⟩ := DataW.trod_struct Tryz.underlying46 h
  have f0 := hf 0 _ rfl
  have f1 := hf 1 _ rfl
  rw [List.getElem?_eq_getElem (by rw [hxs]; decide)] at f0 f1
  match cs, hcl with
  | [c0, c1], _ =>
    obtain ⟨k0, e0, _, w0⟩ := DataW.trod_int Tryz.underlying3 f0
    have e0' : c0 = .int .i64 k0 := by have : [c0] = [Value.int .i64 k0] := e0; simpa using this
    obtain ⟨sv, ds, e, hw, hr⟩ := slice_rows (fun d : PartD × Value => d.1.cells d.2) (fun d => d.1.wf ∧ RdP W.heap.size W d.2 d.1.path) Tryz.underlying44 (by kernel_rfl) (by decide) (fun _ _ _ h hc => part_trod h hc) f1
    have e1' : c1 = sv := by have : [c1] = [sv] := e; simpa using this
    subst e0' e1'
    refine ⟨⟨k0, ds.map (·.1)⟩, ⟨lit_i64 w0, fun d hd => ?_⟩, c1, ds.flatMap fun d => d.1.cells d.2, ?_, partsR_rows ds (fun d hd => (hw d hd).2), rfl⟩
    · obtain ⟨y, hy, rfl⟩ := List.mem_map.1 hd
      exact (hw y hy).1
    · rw [List.length_map]
      exact hr
theorem act19_trod {fuel : Nat} {cs : List Value} {x : DataW H × List MemPlace} (h : DataW.trod enc Tryz.prog W b sp held fuel 58 cs = some x) (hcl : cs.length = 7) : ∃ d : Act19, d.at_ W.heap.size W ∧ cs = d.cells := by
  obtain ⟨xs, m', _, _, _, hxs, hf⟩ := DataW.trod_struct Tryz.underlying58 h
  have f0 := hf 0 _ rfl
  have f1 := hf 1 _ rfl
  have f2 := hf 2 _ rfl
  have f3 := hf 3 _ rfl
  have f4 := hf 4 _ rfl
  have f5 := hf 5 _ rfl
  rw [List.getElem?_eq_getElem (by rw [hxs]; decide)] at f0 f1 f2 f3 f4 f5
  match cs, hcl with
  | [c0, c1, c2, c3, c4, c5, c6], _ =>
    obtain ⟨k0, e0, _, w0⟩ := DataW.trod_int Tryz.underlying3 f0
    obtain ⟨k1, e1, _, w1⟩ := DataW.trod_int Tryz.underlying3 f1
    obtain ⟨k2, e2, w2⟩ := trod_float Tryz.underlying41 f2
    obtain ⟨s3, e3, _, w3⟩ := DataW.trod_string Tryz.underlying9 f3
    obtain ⟨s4, e4, _, w4⟩ := DataW.trod_string Tryz.underlying9 f4
    have f5' : DataW.trod enc Tryz.prog W b sp held _ 46 [c5, c6] = some _ := f5
    obtain ⟨p, hp, hr⟩ := proof_trod f5' rfl
    have e0' : c0 = .int .i64 k0 := by have : [c0] = [Value.int .i64 k0] := e0; simpa using this
    have e1' : c1 = .int .i64 k1 := by have : [c1] = [Value.int .i64 k1] := e1; simpa using this
    have e2' : c2 = .float .f64 k2 := by have : [c2] = [Value.float .f64 k2] := e2; simpa using this
    have e3' : c3 = .string s3 := by have : [c3] = [Value.string s3] := e3; simpa using this
    have e4' : c4 = .string s4 := by have : [c4] = [Value.string s4] := e4; simpa using this
    have hr2 := hr
    obtain ⟨sl, pcs, h1, h2, h3⟩ := hr
    injection h3 with h3 h4
    injection h4 with h4 _
    subst e0' e1' e2' e3' e4' h3 h4
    exact ⟨⟨k0, k1, k2, s3, s4, p.size, c6⟩, ⟨lit_i64 w0, lit_i64 w1, by simpa [Lit.wf, FloatKind.has] using w2, w3, w4, p, hp, hr2⟩, rfl⟩
theorem acts19_open {v : Value} {d : DataW H} {ps : List MemPlace} (h : Value.okWide Tryz.prog W .any base 55 v) (ht : DataW.Trod enc Tryz.prog W b sp held 55 v d ps) :
    ∃ s : List Act19, RdS W.heap.size W v s.length 7 (acts19Cells s) ∧ ∀ a ∈ s, a.at_ W.heap.size W := by
  have hc : Cell.okWide Tryz.prog W .any base 55 v := by
    unfold Value.okWide at h
    rw [Tryz.underlying55] at h
    exact h
  obtain ⟨ao, n, k, rfl, _⟩ := slice_cell Tryz.underlying55 hc
  obtain ⟨fuel, ht⟩ := ht
  have ht' : DataW.trod enc Tryz.prog W b sp held fuel 55 [.slice ao n k] = some (d, ps) := by simpa [Value.cells] using ht
  obtain ⟨sv, ds, e, hw, hr⟩ := slice_rows Act19.cells (fun a => a.at_ W.heap.size W) Tryz.underlying55 (by kernel_rfl) (by decide) (fun _ _ _ h hc => act19_trod h hc) ht'
  simp only [List.cons.injEq, and_true] at e
  subst e
  exact ⟨ds, hr, hw⟩
end

end Go.Proofs.YtbhghlendbcejaaGreatDoor
