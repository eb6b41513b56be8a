/- What comes in: light blocks, with their lists, wherever they stand; pairs and slices of them. What comes in: floats, options, pairs of light blocks. What comes in: a pair of light blocks, with the lengths of its chains' names. -/
import Derived.Test.YtbhghlendbcejaaGreatDoorLts
import Derived.Test.YtbhghlendbcejaaGreatDoorOpen
import Derived.Test.YtbhghlendbcejaaGreatDoorSlc
import Derived.Test.YtbhghlendbcejaaGreatDoorOpen3
import Derived.Test.YtbhghlendbcejaaGreatDoorVf
import Derived.Test.YtbhghlendbcejaaGreatDoorOpenH
namespace Go.Proofs.YtbhghlendbcejaaGreatDoor
open Go.RowKit Go.ChangeShapes Go.WideShapes
set_option maxRecDepth 100000

section
variable {H : Type} {enc : TypeId × Value → H} {W : World} {base b : Nat} {sp : Nat → Bool} {held : Bool}
theorem row_ofK {D : Type} {f : D → List Value} {k : Nat} {w : World} {g : Nat} (l : List D) (o : Nat) (hk : ∀ d ∈ l, (f d).length = k) (h : ∀ i (h : i < l.length), RowAt w g (o + i * k) (f l[i])) : RowAt w g o (l.flatMap f) := row_of' l o hk h
/-- a slice of things of k cells each, wherever it stands -/
theorem slice_rows {D : Type} {t e : TypeId} {k : Nat} (f : D → List Value) (wf : D → Prop) (hu : Tryz.prog.underlying t = some (.slice e)) (hk : Tryz.prog.cellsOf e = k) (hk0 : 0 < k)
    (elem : ∀ fuel cs x, DataW.trod enc Tryz.prog W b sp held fuel e cs = some x → cs.length = k → ∃ d, wf d ∧ cs = f d)
    {fuel : Nat} {x : DataW H × List MemPlace} {cs : List Value} (h : DataW.trod enc Tryz.prog W b sp held fuel t cs = some x) :
    ∃ (sv : Value) (ds : List D), cs = [sv] ∧ (∀ d ∈ ds, wf d) ∧ RdS W.heap.size W sv ds.length k (ds.flatMap f) := by
  rcases DataW.trod_slice hu h with ⟨rfl, _⟩ | ⟨a, len, cap, elems, rest, m, _, rfl, _, _, hl, hm, _, hel, hi, _⟩
  · exact ⟨_, [], rfl, by simp, none, 0, rfl, Nat.le_refl _, by unfold maxLen; omega, by simp, Or.inl rfl⟩
  · by_cases h0 : len = 0
    · subst h0
      exact ⟨_, [], rfl, by simp, some a, cap, rfl, Nat.zero_le _, hm, by simp, Or.inl rfl⟩
    rw [hk] at hel
    have each : ∀ i, i < len → ∃ cs, W.cells? b (a.add (i * k)) k = some cs ∧ ∃ y, DataW.trod enc Tryz.prog W b sp held m e cs = some y := by
      intro i hin
      have h1 := hel i hin
      rw [List.getElem?_eq_getElem (by omega), Option.bind_eq_some_iff] at h1
      obtain ⟨cs, h2, h3⟩ := h1
      exact ⟨cs, h2, _, h3⟩
    obtain ⟨cs0, k1, _⟩ := each 0 (by omega)
    obtain ⟨k2, k3⟩ := cells_two k1
    have k4 := k3 0 (by omega)
    rw [Nat.zero_mul] at k4
    have e0 : (a.add 0).add 0 = a := rfl
    rw [e0, List.getElem?_eq_getElem (by omega)] at k4
    obtain ⟨g, o, s⟩ := a
    have hs : s = none ∧ g < W.heap.size := by
      refine ⟨?_, World.block_lt_of_cell? W _ k4⟩
      unfold World.cell? at k4
      split at k4
      · cases s with
        | none => rfl
        | some q => simp at k4
      · cases k4
    obtain ⟨rfl, hg⟩ := hs
    obtain ⟨l, hll, hq⟩ := list_of (Q := fun i (d : D) => wf d ∧ (f d).length = k ∧ RowAt W g (o + i * k) (f d)) len (fun i hin => by
      obtain ⟨cs, h2, y, h3⟩ := each i hin
      obtain ⟨hcl, hc⟩ := cells_two h2
      obtain ⟨d, hd, rfl⟩ := elem _ _ _ h3 hcl
      refine ⟨d, hd, hcl, ?_⟩
      intro j v hj
      have hj2 : j < k := by have := (List.getElem?_eq_some_iff.1 hj).1; rw [hcl] at this; exact this
      have := hc j hj2
      rw [addr_add, addr_add] at this
      rw [this]; exact hj)
    subst hll
    have hw : ∀ d ∈ l, wf d ∧ (f d).length = k := fun d hd => by
      obtain ⟨i, hi2, rfl⟩ := List.getElem_of_mem hd
      exact ⟨(hq i hi2).1, (hq i hi2).2.1⟩
    exact ⟨_, l, rfl, fun d hd => (hw d hd).1, some ⟨g, o, none⟩, cap, rfl, hl, hm, flat_length f k l (fun d hd => (hw d hd).2), Or.inr ⟨g, o, rfl, hg, row_ofK l o (fun d hd => (hw d hd).2) (fun i hi => (hq i hi).2.2)⟩⟩
theorem val_trod {fuel : Nat} {cs : List Value} {x : DataW H × List MemPlace} (h : DataW.trod enc Tryz.prog W b sp held fuel 131 cs = some x) (hcl : cs.length = 2) : ∃ d : ValD, d.wf ∧ cs = d.cells := by
  obtain ⟨xs, m', _, _, _, hxs, hf⟩ := DataW.trod_struct Tryz.underlying131 h
  have f0 := hf 0 _ rfl
  have f1 := hf 1 _ rfl
  rw [List.getElem?_eq_getElem (by rw [hxs]; decide)] at f0 f1
  match cs, hcl with
  | [c0, c1], _ =>
    obtain ⟨k0, e0, _, w0⟩ := DataW.trod_int Tryz.underlying111 f0
    obtain ⟨k1, e1, _, w1⟩ := DataW.trod_int Tryz.underlying3 f1
    have e0' : c0 = .int .u64 k0 := by have : [c0] = [Value.int .u64 k0] := e0; simpa using this
    have e1' : c1 = .int .i64 k1 := by have : [c1] = [Value.int .i64 k1] := e1; simpa using this
    subst e0' e1'
    exact ⟨⟨k0, k1⟩, ⟨lit_u64 w0, lit_i64 w1⟩, rfl⟩
theorem seal_trod {fuel : Nat} {cs : List Value} {x : DataW H × List MemPlace} (h : DataW.trod enc Tryz.prog W b sp held fuel 128 cs = some x) (hcl : cs.length = 3) : ∃ d : SealD, d.wf ∧ cs = d.cells := by
  obtain ⟨xs, m', _, _, _, hxs, hf⟩ := DataW.trod_struct Tryz.underlying128 h
  have f0 := hf 0 _ rfl
  have f1 := hf 1 _ rfl
  rw [List.getElem?_eq_getElem (by rw [hxs]; decide)] at f0 f1
  match cs, hcl with
  | [c0, c1, c2], _ =>
    obtain ⟨k0, e0, _, w0⟩ := DataW.trod_int Tryz.underlying111 f0
    obtain ⟨ys, m2, _, _, _, hys, hg⟩ := DataW.trod_struct Tryz.underlying126 f1
    have g0 := hg 0 _ rfl
    have g1 := hg 1 _ rfl
    rw [List.getElem?_eq_getElem (by rw [hys]; decide)] at g0 g1
    obtain ⟨k1, e1, _, w1⟩ := DataW.trod_int Tryz.underlying111 g0
    obtain ⟨k2, e2, _, w2⟩ := DataW.trod_int Tryz.underlying111 g1
    have e0' : c0 = .int .u64 k0 := by have : [c0] = [Value.int .u64 k0] := e0; simpa using this
    have e1' : c1 = .int .u64 k1 := by have : [c1] = [Value.int .u64 k1] := e1; simpa using this
    have e2' : c2 = .int .u64 k2 := by have : [c2] = [Value.int .u64 k2] := e2; simpa using this
    subst e0' e1' e2'
    exact ⟨⟨k0, k1, k2⟩, ⟨lit_u64 w0, lit_u64 w1, lit_u64 w2⟩, rfl⟩
theorem vals_trod {fuel : Nat} {x : DataW H × List MemPlace} {cs : List Value} (h : DataW.trod enc Tryz.prog W b sp held fuel 29 cs = some x) :
    ∃ (sv : Value) (ds : List ValD), cs = [sv] ∧ (∀ d ∈ ds, d.wf) ∧ RdS W.heap.size W sv ds.length 2 (setCells ds) :=
  slice_rows ValD.cells ValD.wf Tryz.underlying29 (by kernel_rfl) (by decide) (fun _ _ _ h hc => val_trod h hc) h
theorem seals_trod {fuel : Nat} {x : DataW H × List MemPlace} {cs : List Value} (h : DataW.trod enc Tryz.prog W b sp held fuel 26 cs = some x) :
    ∃ (sv : Value) (ds : List SealD), cs = [sv] ∧ (∀ d ∈ ds, d.wf) ∧ RdS W.heap.size W sv ds.length 3 (sealCells ds) :=
  slice_rows SealD.cells SealD.wf Tryz.underlying26 (by kernel_rfl) (by decide) (fun _ _ _ h hc => seal_trod h hc) h
/-- a light block, wherever it stands -/
theorem light_trodD {fuel : Nat} {cs : List Value} {x : DataW H × List MemPlace} (h : DataW.trod enc Tryz.prog W b sp held fuel 31 cs = some x) : ∃ l : LightD, l.wf ∧ l.rep W.heap.size W cs := by
  obtain ⟨xs, m, _, _, hcl, hxs, hf⟩ := DataW.trod_struct Tryz.underlying31 h
  rw [show Tryz.prog.cellsOf 31 = 200 by kernel_rfl] at hcl
  have f0 := hf 0 _ rfl; have f1 := hf 1 _ rfl; have f2 := hf 2 _ rfl; have f3 := hf 3 _ rfl
  rw [List.getElem?_eq_getElem (by rw [hxs]; decide)] at f0 f1 f2 f3
  obtain ⟨d, hd, e0⟩ := header_trod f0
  obtain ⟨ys, m', _, _, hcl1, hys, hg⟩ := DataW.trod_struct Tryz.underlying28 f1
  have g0 := hg 0 _ rfl; have g1 := hg 1 _ rfl; have g2 := hg 2 _ rfl; have g3 := hg 3 _ rfl
  rw [List.getElem?_eq_getElem (by rw [hys]; decide)] at g0 g1 g2 g3
  obtain ⟨n1, c1, _, q1⟩ := DataW.trod_int Tryz.underlying3 g0
  obtain ⟨n2, c2, _, q2⟩ := DataW.trod_int Tryz.underlying3 g1
  obtain ⟨bl, q3, c3⟩ := hash_trod g2
  obtain ⟨sv, ss, c4, sw, sr⟩ := seals_trod g3
  obtain ⟨tv, vs, c5, vw, vr⟩ := vals_trod f2
  obtain ⟨nv, ns, c6, nw, nr⟩ := vals_trod f3
  have k0 : (cs.drop 0).take 163 = d.cells := by have : (cs.drop 0).take (Tryz.prog.cellsOf 25) = d.cells := e0; rwa [header_size_num] at this
  obtain ⟨cm, hcm⟩ : ∃ cm, (cs.drop 163).take 35 = cm := ⟨_, rfl⟩
  have hcm' : (cs.drop 163).take (Tryz.prog.cellsOf 28) = cm := by rw [commit_size_num]; exact hcm
  have d1 : (cm.drop 0).take 1 = [.int .i64 n1] := by have : (((cs.drop 163).take (Tryz.prog.cellsOf 28)).drop 0).take (Tryz.prog.cellsOf 3) = [.int .i64 n1] := c1; rwa [int_size_num, hcm'] at this
  have d2 : (cm.drop 1).take 1 = [.int .i64 n2] := by have : (((cs.drop 163).take (Tryz.prog.cellsOf 28)).drop 1).take (Tryz.prog.cellsOf 3) = [.int .i64 n2] := c2; rwa [int_size_num, hcm'] at this
  have d3 : (cm.drop 2).take 32 = Lib.byteCells bl := by have : (((cs.drop 163).take (Tryz.prog.cellsOf 28)).drop 2).take (Tryz.prog.cellsOf 23) = Lib.byteCells bl := c3; rwa [hash_size_num, hcm'] at this
  have d4 : (cm.drop 34).take 1 = [sv] := by have : (((cs.drop 163).take (Tryz.prog.cellsOf 28)).drop 34).take (Tryz.prog.cellsOf 26) = [sv] := c4; rwa [seals_size_num, hcm'] at this
  have k2 : (cs.drop 198).take 1 = [tv] := by have : (cs.drop 198).take (Tryz.prog.cellsOf 29) = [tv] := c5; rwa [vals_size_num] at this
  have k3 : (cs.drop 199).take 1 = [nv] := by have : (cs.drop 199).take (Tryz.prog.cellsOf 29) = [nv] := c6; rwa [vals_size_num] at this
  have hcml : cm.length = 35 := by rw [← hcm]; simp; omega
  refine ⟨⟨d, ⟨n1, n2, bl, ss⟩, vs, ns⟩, ⟨hd, ⟨lit_i64 q1, lit_i64 q2, q3, sw⟩, vw, nw⟩, cm, tv, nv, ⟨sv, sr, ?_⟩, vr, nr, ?_⟩
  · rw [cut4 cm hcml, d1, d2, d3, d4]; simp
  · rw [cut3 cs hcl, k0, k2, k3, hcm]; simp
/-- the cells of a light block, with what they stand for -/
structure LtB where
  l : LightD
  cs : List Value
def LtB.at_ (W : World) (B : Nat) (d : LtB) : Prop := d.l.wf ∧ d.l.rep B W d.cs
theorem lights_trodD {fuel : Nat} {x : DataW H × List MemPlace} {cs : List Value} (h : DataW.trod enc Tryz.prog W b sp held fuel 54 cs = some x) :
    ∃ (sv : Value) (ds : List LtB), cs = [sv] ∧ (∀ d ∈ ds, d.at_ W W.heap.size) ∧ RdS W.heap.size W sv ds.length 200 (ds.flatMap LtB.cs) :=
  slice_rows LtB.cs (LtB.at_ W W.heap.size) Tryz.underlying54 (by kernel_rfl) (by decide) (fun _ cs _ h _ => by
    obtain ⟨l, h1, h2⟩ := light_trodD h
    exact ⟨⟨l, cs⟩, ⟨h1, h2⟩, rfl⟩) h
end

theorem f64_cell {P : Program} {W : World} {base : Nat} {t : TypeId} {c : Value} (hu : P.underlying t = some (.float .f64)) (h : Cell.okWide P W .any base t c) : ∃ x : Nat, c = .float .f64 x ∧ x < 18446744073709551616 := by
  unfold Cell.okWide at h
  rw [hu] at h
  unfold Cell.ok at h
  rw [hu] at h
  cases c with
  | float k x =>
    obtain ⟨rfl, hx⟩ := h
    exact ⟨x, rfl, by simpa [FloatKind.has] using hx⟩
  | _ => simp at h
section
variable {H : Type} {enc : TypeId × Value → H} {W : World} {base b : Nat} {sp : Nat → Bool} {held : Bool}
theorem f64_open {v : Value} (h : Value.okWide Tryz.prog W .any base 41 v) : ∃ x : Nat, v = .float .f64 x ∧ x < 18446744073709551616 := by
  unfold Value.okWide at h
  rw [Tryz.underlying41] at h
  exact f64_cell Tryz.underlying41 h
theorem opt_types : Tryz.prog.cellTypes Tryz.prog.depth 43 = some [41, 41, 41] := by kernel_rfl
theorem opt_open {v : Value} (h : Value.okWide Tryz.prog W .any base 43 v) : ∃ o : OptD, o.wf ∧ v = .agg o.cells.toArray := by
  obtain ⟨cs, rfl, hc⟩ := cells_open h (by kernel_rfl) opt_types (by kernel_rfl)
  obtain ⟨c0, r0, rfl, h0, hc⟩ := cellsOk_cons hc
  obtain ⟨c1, r1, rfl, h1, hc⟩ := cellsOk_cons hc
  obtain ⟨c2, r2, rfl, h2, hc⟩ := cellsOk_cons hc
  obtain rfl := cellsOk_nil hc
  obtain ⟨x, rfl, q0⟩ := f64_cell Tryz.underlying41 h0
  obtain ⟨y, rfl, q1⟩ := f64_cell Tryz.underlying41 h1
  obtain ⟨z, rfl, q2⟩ := f64_cell Tryz.underlying41 h2
  exact ⟨⟨x, y, z⟩, ⟨q0, q1, q2⟩, rfl⟩
theorem cells_split (cs : List Value) (h : cs.length = 400) : cs = (cs.drop (0 * 200)).take 200 ++ (cs.drop (1 * 200)).take 200 := by
  have e : (cs.drop (1 * 200)).take 200 = cs.drop 200 := List.take_of_length_le (by simp; omega)
  rw [e]
  simp [List.take_append_drop]
theorem trod_float {fuel : Nat} {k : FloatKind} {t : TypeId} {cs : List Value} {x : DataW H × List MemPlace} (ht : Tryz.prog.underlying t = some (.float k)) (h : DataW.trod enc Tryz.prog W b sp held fuel t cs = some x) : ∃ n, cs = [.float k n] ∧ (Lit.float k n).wf = true := by
  cases fuel with
  | zero => simp [DataW.trod] at h
  | succ n =>
    unfold DataW.trod at h
    rw [ht] at h
    split at h <;> simp_all
end

theorem weightsAll_mem {H : Type} {P : Program} {e : TypeId} : ∀ {ds : List (DataW H)} {j : Nat} {d : DataW H}, ds[j]? = some d → ∀ n ∈ d.weights P e, n ∈ DataW.weightsAll P e ds
  | d0 :: ds, 0, d, hd, n, hn => by
    simp only [List.getElem?_cons_zero, Option.some.injEq] at hd
    subst hd
    simp only [DataW.weightsAll, List.mem_append]
    exact Or.inl hn
  | d0 :: ds, j + 1, d, hd, n, hn => by
    simp only [List.getElem?_cons_succ] at hd
    simp only [DataW.weightsAll, List.mem_append]
    exact Or.inr (weightsAll_mem hd n hn)
  | [], _, _, hd, _, _ => by simp at hd
section
variable {H : Type} {enc : TypeId × Value → H} {W : World} {base b : Nat} {sp : Nat → Bool} {held : Bool}
theorem light_chain_at {B fuel : Nat} {l : LightD} {cs : List Value} {x : DataW H × List MemPlace} (hl : l.wf) (hr : l.rep B W cs) (h : DataW.trod enc Tryz.prog W b sp held fuel 31 cs = some x) : l.header.chain.size ∈ x.1.weights Tryz.prog 31 := by
  refine field_weight Tryz.underlying31 h 0 rfl ?_
  intro m y hy
  show l.header.chain.size ∈ y.1.weights Tryz.prog 25
  refine header_chain_at (enc := enc) (W := W) (b := b) (sp := sp) (held := held) (x := y) (d := l.header) (fuel := m) (Eq.trans ?_ hy)
  obtain ⟨cc, sv, nv, _, _, _, rfl⟩ := hr
  have e0 := l.header.cells_length hl.header
  have e : ((l.header.cells ++ cc ++ [sv, nv]).drop 0).take (Tryz.prog.cellsOf 25) = l.header.cells := by
    rw [header_cells_num]
    simp only [List.drop_zero, List.append_assoc]
    rw [List.take_append_of_le_length (by omega), List.take_of_length_le (by omega)]
  exact congrArg (DataW.trod enc Tryz.prog W b sp held m 25) e.symm
end

end Go.Proofs.YtbhghlendbcejaaGreatDoor
