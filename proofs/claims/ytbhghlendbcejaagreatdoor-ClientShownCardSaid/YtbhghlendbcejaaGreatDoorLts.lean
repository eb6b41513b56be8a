/- Slices of light blocks, of which the headers and the lists' lengths are read: how they lie, and how they come in. -/
import Derived.Test.YtbhghlendbcejaaGreatDoorOpen
import Derived.Test.YtbhghlendbcejaaGreatDoorSlc
namespace Go.Proofs.YtbhghlendbcejaaGreatDoor
open Go.RowKit Go.ChangeShapes Go.WideShapes
set_option maxRecDepth 100000

/-- a light block, as its own cells say -/
structure LtR where
  header : HeaderD
  height : Int
  round : Int
  block : List UInt8
  sa : Option Addr
  sn : Nat
  sc : Nat
  ta : Option Addr
  tn : Nat
  tc : Nat
  na : Option Addr
  nn : Nat
  nc : Nat
structure LtR.wf (l : LtR) : Prop where
  header : l.header.wf
  block : l.block.length = 32
  sn : l.sn ≤ maxLen
  tn : l.tn ≤ maxLen
  nn : l.nn ≤ maxLen
def LtR.mid (l : LtR) : List Value := [.int .i64 l.height, .int .i64 l.round] ++ Lib.byteCells l.block
def LtR.cells (l : LtR) : List Value := l.header.cells ++ (l.mid ++ [.slice l.sa l.sn l.sc, .slice l.ta l.tn l.tc, .slice l.na l.nn l.nc])
theorem LtR.mid_length (l : LtR) (h : l.wf) : l.mid.length = 34 := by simp [LtR.mid, Lib.byteCells_length, h.block]
theorem LtR.cells_length (l : LtR) (h : l.wf) : l.cells.length = 200 := by
  have := l.header.cells_length h.header
  have := l.mid_length h
  simp only [LtR.cells, List.length_append, List.length_cons, List.length_nil]; omega
theorem sizeLt (l : LtR) (h : l.wf) : (Tryz.prog.info? 31).map (·.size) = some l.cells.length := by rw [l.cells_length h]; kernel_rfl
def ltsCells (l : List LtR) : List Value := l.flatMap LtR.cells

section
variable {w : World} {g o : Nat} {l : LtR}
theorem LtR.header_at (h : RowAt w g o l.cells) (hl : l.wf) : RowAt w g o l.header.cells := by
  have := h.part 0 163
  rw [List.drop_zero, Nat.add_zero] at this
  rw [LtR.cells, List.take_append_of_le_length (by rw [l.header.cells_length hl.header]; exact Nat.le_refl _), List.take_of_length_le (by rw [l.header.cells_length hl.header]; exact Nat.le_refl _)] at this
  exact this
theorem LtR.tail_at (h : RowAt w g o l.cells) (hl : l.wf) (k : Nat) {v : Value} (hk : (l.mid ++ [.slice l.sa l.sn l.sc, .slice l.ta l.tn l.tc, .slice l.na l.nn l.nc])[k]? = some v) : w.cell? ⟨g, o + (163 + k), none⟩ = some v := by
  refine h (163 + k) v ?_
  rw [LtR.cells, List.getElem?_append_right (by rw [l.header.cells_length hl.header]; omega), l.header.cells_length hl.header, Nat.add_sub_cancel_left]
  exact hk
theorem LtR.seals_at (h : RowAt w g o l.cells) (hl : l.wf) : w.cell? ⟨g, o + 197, none⟩ = some (.slice l.sa l.sn l.sc) :=
  l.tail_at h hl 34 (by rw [List.getElem?_append_right (by rw [l.mid_length hl]; omega), l.mid_length hl]; rfl)
theorem LtR.set_at (h : RowAt w g o l.cells) (hl : l.wf) : w.cell? ⟨g, o + 198, none⟩ = some (.slice l.ta l.tn l.tc) :=
  l.tail_at h hl 35 (by rw [List.getElem?_append_right (by rw [l.mid_length hl]; omega), l.mid_length hl]; rfl)
theorem LtR.next_at (h : RowAt w g o l.cells) (hl : l.wf) : w.cell? ⟨g, o + 199, none⟩ = some (.slice l.na l.nn l.nc) :=
  l.tail_at h hl 36 (by rw [List.getElem?_append_right (by rw [l.mid_length hl]; omega), l.mid_length hl]; rfl)
end

section
variable {H : Type} {enc : TypeId × Value → H} {W : World} {base b : Nat} {sp : Nat → Bool} {held : Bool}
theorem one_u8 : Tryz.prog.cellsOf 5 = 1 := by kernel_rfl
theorem hash_trod {fuel : Nat} {cs : List Value} {x : DataW H × List MemPlace} (h : DataW.trod enc Tryz.prog W b sp held fuel 23 cs = some x) : ∃ l : List UInt8, l.length = 32 ∧ cs = Lib.byteCells l := by
  obtain ⟨xs, m, _, _, hcl, hl, hel⟩ := DataW.trod_array Tryz.underlying23 h
  have hcl : cs.length = 32 := hcl.trans (show Tryz.prog.cellsOf 23 = 32 by kernel_rfl)
  obtain ⟨l, h1, h2⟩ := list_of (Q := fun i (y : UInt8) => cs[i]? = some (.int .u8 (y.toNat : Int))) 32 (fun i hi => by
    have hE := hel i hi
    rw [one_u8, Nat.mul_one, List.getElem?_eq_getElem (by omega)] at hE
    obtain ⟨z, e1, _, hz⟩ := DataW.trod_int Tryz.underlying5 hE
    simp [Lit.wf, IntKind.min, IntKind.max, IntKind.signed, IntKind.bits] at hz
    refine ⟨UInt8.ofNat z.toNat, ?_⟩
    have e : ((UInt8.ofNat z.toNat).toNat : Int) = z := by rw [UInt8.toNat_ofNat']; omega
    rw [e]
    have h0 : ((cs.drop i).take 1)[0]? = some (.int .u8 z) := by rw [e1]; rfl
    simpa using h0)
  refine ⟨l, h1, List.ext_getElem? fun i => ?_⟩
  by_cases hi : i < 32
  · rw [h2 i (by omega)]
    simp [Lib.byteCells, List.getElem?_eq_getElem (show i < l.length by omega)]
  · rw [List.getElem?_eq_none (by omega), List.getElem?_eq_none (by rw [Lib.byteCells_length]; omega)]
theorem header_size_num : Tryz.prog.cellsOf 25 = 163 := by kernel_rfl
theorem commit_size_num : Tryz.prog.cellsOf 28 = 35 := by kernel_rfl
theorem hash_size_num : Tryz.prog.cellsOf 23 = 32 := by kernel_rfl
theorem int_size_num : Tryz.prog.cellsOf 3 = 1 := by kernel_rfl
theorem string_size_num : Tryz.prog.cellsOf 9 = 1 := by kernel_rfl
theorem vals_size_num : Tryz.prog.cellsOf 29 = 1 := by kernel_rfl
theorem seals_size_num : Tryz.prog.cellsOf 26 = 1 := by kernel_rfl
theorem cut8 (cs : List Value) (h : cs.length = 163) : cs = (cs.drop 0).take 1 ++ (cs.drop 1).take 1 ++ (cs.drop 2).take 1 ++ (cs.drop 3).take 32 ++ (cs.drop 35).take 32 ++ (cs.drop 67).take 32 ++ (cs.drop 99).take 32 ++ (cs.drop 131).take 32 := by
  have key : ∀ (l : List Value) (a k : Nat), l.drop a = (l.drop a).take k ++ l.drop (a + k) := fun l a k => by rw [← List.drop_drop, List.take_append_drop]
  have e : cs = cs.drop 0 := rfl
  have z : cs.drop 163 = [] := List.drop_eq_nil_of_le (by omega)
  calc cs = cs.drop 0 := rfl
    _ = _ := by
      conv => lhs; rw [key cs 0 1, key cs (0 + 1) 1, key cs (0 + 1 + 1) 1, key cs (0 + 1 + 1 + 1) 32, key cs (0 + 1 + 1 + 1 + 32) 32, key cs (0 + 1 + 1 + 1 + 32 + 32) 32, key cs (0 + 1 + 1 + 1 + 32 + 32 + 32) 32, key cs (0 + 1 + 1 + 1 + 32 + 32 + 32 + 32) 32]
      simp only [Nat.zero_add, Nat.reduceAdd, z, List.append_nil, List.append_assoc]
theorem header_trod {fuel : Nat} {cs : List Value} {x : DataW H × List MemPlace} (h : DataW.trod enc Tryz.prog W b sp held fuel 25 cs = some x) : ∃ d : HeaderD, d.wf ∧ cs = d.cells := by
  obtain ⟨xs, m, _, _, hcl, hxs, hf⟩ := DataW.trod_struct Tryz.underlying25 h
  rw [header_size_num] at hcl
  have f0 := hf 0 _ rfl; have f1 := hf 1 _ rfl; have f2 := hf 2 _ rfl; have f3 := hf 3 _ rfl; have f4 := hf 4 _ rfl; have f5 := hf 5 _ rfl; have f6 := hf 6 _ rfl; have f7 := hf 7 _ rfl
  rw [List.getElem?_eq_getElem (by rw [hxs]; decide)] at f0 f1 f2 f3 f4 f5 f6 f7
  obtain ⟨s, e0, _, q0⟩ := DataW.trod_string Tryz.underlying9 f0
  obtain ⟨n1, e1, _, q1⟩ := DataW.trod_int Tryz.underlying3 f1
  obtain ⟨n2, e2, _, q2⟩ := DataW.trod_int Tryz.underlying3 f2
  obtain ⟨l3, q3, e3⟩ := hash_trod f3
  obtain ⟨l4, q4, e4⟩ := hash_trod f4
  obtain ⟨l5, q5, e5⟩ := hash_trod f5
  obtain ⟨l6, q6, e6⟩ := hash_trod f6
  obtain ⟨l7, q7, e7⟩ := hash_trod f7
  refine ⟨⟨s, n1, n2, l3, l4, l5, l6, l7⟩, ⟨q0, lit_i64 q1, lit_i64 q2, q3, q4, q5, q6, q7⟩, ?_⟩
  have g0 : (cs.drop 0).take 1 = [.string s] := by have : (cs.drop 0).take (Tryz.prog.cellsOf 9) = [.string s] := e0; rwa [string_size_num] at this
  have g1 : (cs.drop 1).take 1 = [.int .i64 n1] := by have : (cs.drop 1).take (Tryz.prog.cellsOf 3) = [.int .i64 n1] := e1; rwa [int_size_num] at this
  have g2 : (cs.drop 2).take 1 = [.int .i64 n2] := by have : (cs.drop 2).take (Tryz.prog.cellsOf 3) = [.int .i64 n2] := e2; rwa [int_size_num] at this
  have g3 : (cs.drop 3).take 32 = Lib.byteCells l3 := by have : (cs.drop 3).take (Tryz.prog.cellsOf 23) = Lib.byteCells l3 := e3; rwa [hash_size_num] at this
  have g4 : (cs.drop 35).take 32 = Lib.byteCells l4 := by have : (cs.drop 35).take (Tryz.prog.cellsOf 23) = Lib.byteCells l4 := e4; rwa [hash_size_num] at this
  have g5 : (cs.drop 67).take 32 = Lib.byteCells l5 := by have : (cs.drop 67).take (Tryz.prog.cellsOf 23) = Lib.byteCells l5 := e5; rwa [hash_size_num] at this
  have g6 : (cs.drop 99).take 32 = Lib.byteCells l6 := by have : (cs.drop 99).take (Tryz.prog.cellsOf 23) = Lib.byteCells l6 := e6; rwa [hash_size_num] at this
  have g7 : (cs.drop 131).take 32 = Lib.byteCells l7 := by have : (cs.drop 131).take (Tryz.prog.cellsOf 23) = Lib.byteCells l7 := e7; rwa [hash_size_num] at this
  rw [cut8 cs hcl, g0, g1, g2, g3, g4, g5, g6, g7]
  simp [HeaderD.cells]
theorem slice_trod {t e : TypeId} {fuel : Nat} {cs : List Value} {x : DataW H × List MemPlace} (hu : Tryz.prog.underlying t = some (.slice e)) (h : DataW.trod enc Tryz.prog W b sp held fuel t cs = some x) : ∃ a n k, cs = [.slice a n k] ∧ n ≤ maxLen := by
  rcases DataW.trod_slice hu h with ⟨h0, _⟩ | ⟨a, len, cap, _, _, _, _, e1, _, _, h1, h2, _⟩
  · exact ⟨none, 0, 0, h0, Nat.zero_le _⟩
  · exact ⟨_, _, _, e1, by omega⟩
theorem cut4 (cs : List Value) (h : cs.length = 35) : cs = (cs.drop 0).take 1 ++ (cs.drop 1).take 1 ++ (cs.drop 2).take 32 ++ (cs.drop 34).take 1 := by
  have key : ∀ (l : List Value) (a k : Nat), l.drop a = (l.drop a).take k ++ l.drop (a + k) := fun l a k => by rw [← List.drop_drop, List.take_append_drop]
  have z : cs.drop 35 = [] := List.drop_eq_nil_of_le (by omega)
  calc cs = cs.drop 0 := rfl
    _ = _ := by
      conv => lhs; rw [key cs 0 1, key cs (0 + 1) 1, key cs (0 + 1 + 1) 32, key cs (0 + 1 + 1 + 32) 1]
      simp only [Nat.zero_add, Nat.reduceAdd, z, List.append_nil, List.append_assoc]
theorem cut3 (cs : List Value) (h : cs.length = 200) : cs = (cs.drop 0).take 163 ++ (cs.drop 163).take 35 ++ (cs.drop 198).take 1 ++ (cs.drop 199).take 1 := by
  have key : ∀ (l : List Value) (a k : Nat), l.drop a = (l.drop a).take k ++ l.drop (a + k) := fun l a k => by rw [← List.drop_drop, List.take_append_drop]
  have z : cs.drop 200 = [] := List.drop_eq_nil_of_le (by omega)
  calc cs = cs.drop 0 := rfl
    _ = _ := by
      conv => lhs; rw [key cs 0 163, key cs (0 + 163) 35, key cs (0 + 163 + 35) 1, key cs (0 + 163 + 35 + 1) 1]
      simp only [Nat.zero_add, Nat.reduceAdd, z, List.append_nil, List.append_assoc]
theorem light_trod {fuel : Nat} {cs : List Value} {x : DataW H × List MemPlace} (h : DataW.trod enc Tryz.prog W b sp held fuel 31 cs = some x) : ∃ l : LtR, l.wf ∧ cs = l.cells := by
  obtain ⟨xs, m, _, _, hcl, hxs, hf⟩ := DataW.trod_struct Tryz.underlying31 h
  rw [show Tryz.prog.cellsOf 31 = 200 by kernel_rfl] at hcl
  have f0 := hf 0 _ rfl; have f1 := hf 1 _ rfl; have f2 := hf 2 _ rfl; have f3 := hf 3 _ rfl
  rw [List.getElem?_eq_getElem (by rw [hxs]; decide)] at f0 f1 f2 f3
  obtain ⟨d, hd, e0⟩ := header_trod f0
  obtain ⟨ys, m', _, _, hcl1, hys, hg⟩ := DataW.trod_struct Tryz.underlying28 f1
  have g0 := hg 0 _ rfl; have g1 := hg 1 _ rfl; have g2 := hg 2 _ rfl; have g3 := hg 3 _ rfl
  rw [List.getElem?_eq_getElem (by rw [hys]; decide)] at g0 g1 g2 g3
  obtain ⟨n1, c1, _, q1⟩ := DataW.trod_int Tryz.underlying3 g0
  obtain ⟨n2, c2, _, q2⟩ := DataW.trod_int Tryz.underlying3 g1
  obtain ⟨bl, q3, c3⟩ := hash_trod g2
  obtain ⟨sa, sn, sc, c4, h4⟩ := slice_trod Tryz.underlying26 g3
  obtain ⟨ta, tn, tc, c5, h5⟩ := slice_trod Tryz.underlying29 f2
  obtain ⟨na, nn, nc, c6, h6⟩ := slice_trod Tryz.underlying29 f3
  refine ⟨⟨d, n1, n2, bl, sa, sn, sc, ta, tn, tc, na, nn, nc⟩, ⟨hd, q3, h4, h5, h6⟩, ?_⟩
  have k0 : (cs.drop 0).take 163 = d.cells := by have : (cs.drop 0).take (Tryz.prog.cellsOf 25) = d.cells := e0; rwa [header_size_num] at this
  obtain ⟨cm, hcm⟩ : ∃ cm, (cs.drop 163).take 35 = cm := ⟨_, rfl⟩
  have hcm' : (cs.drop 163).take (Tryz.prog.cellsOf 28) = cm := by rw [commit_size_num]; exact hcm
  have d1 : (cm.drop 0).take 1 = [.int .i64 n1] := by have : (((cs.drop 163).take (Tryz.prog.cellsOf 28)).drop 0).take (Tryz.prog.cellsOf 3) = [.int .i64 n1] := c1; rwa [int_size_num, hcm'] at this
  have d2 : (cm.drop 1).take 1 = [.int .i64 n2] := by have : (((cs.drop 163).take (Tryz.prog.cellsOf 28)).drop 1).take (Tryz.prog.cellsOf 3) = [.int .i64 n2] := c2; rwa [int_size_num, hcm'] at this
  have d3 : (cm.drop 2).take 32 = Lib.byteCells bl := by have : (((cs.drop 163).take (Tryz.prog.cellsOf 28)).drop 2).take (Tryz.prog.cellsOf 23) = Lib.byteCells bl := c3; rwa [hash_size_num, hcm'] at this
  have d4 : (cm.drop 34).take 1 = [.slice sa sn sc] := by have : (((cs.drop 163).take (Tryz.prog.cellsOf 28)).drop 34).take (Tryz.prog.cellsOf 26) = [.slice sa sn sc] := c4; rwa [seals_size_num, hcm'] at this
  have k2 : (cs.drop 198).take 1 = [.slice ta tn tc] := by have : (cs.drop 198).take (Tryz.prog.cellsOf 29) = [.slice ta tn tc] := c5; rwa [vals_size_num] at this
  have k3 : (cs.drop 199).take 1 = [.slice na nn nc] := by have : (cs.drop 199).take (Tryz.prog.cellsOf 29) = [.slice na nn nc] := c6; rwa [vals_size_num] at this
  have hcml : cm.length = 35 := by rw [← hcm]; simp; omega
  rw [cut3 cs hcl, k0, k2, k3, hcm, cut4 cm hcml, d1, d2, d3, d4]
  simp [LtR.cells, LtR.mid]
theorem light_cells_num : Tryz.prog.cellsOf 31 = 200 := by kernel_rfl
theorem row_of' {D : Type} {f : D → List Value} {k : Nat} {w : World} {g : Nat} : ∀ (l : List D) (o : Nat), (∀ d ∈ l, (f d).length = k) → (∀ i (h : i < l.length), RowAt w g (o + i * k) (f l[i])) → RowAt w g o (l.flatMap f)
  | [], o, _, _ => by intro j v hj; simp at hj
  | x :: l, o, hk, h => by
    have hx := hk x (by simp)
    have h0 := h 0 (by simp)
    rw [Nat.zero_mul, Nat.add_zero] at h0
    have hr := row_of' l (o + k) (fun d hd => hk d (by simp [hd])) (fun i hi => by
      have := h (i + 1) (by simpa using hi)
      rwa [show o + (i + 1) * k = o + k + i * k by rw [Nat.add_mul]; omega] at this)
    intro j v hj
    rw [List.flatMap_cons] at hj
    by_cases hjk : j < k
    · rw [List.getElem?_append_left (by rw [hx]; exact hjk)] at hj
      exact h0 j v hj
    · rw [List.getElem?_append_right (by rw [hx]; omega), hx] at hj
      have := hr (j - k) v hj
      rwa [show o + k + (j - k) = o + j by omega] at this
/-- light blocks that came in -/
theorem lights_open {v : Value} {d : DataW H} {ps : List MemPlace} (h : Value.okWide Tryz.prog W .any base 54 v) (ht : DataW.Trod enc Tryz.prog W b sp held 54 v d ps) :
    ∃ ds : List LtR, (∀ d ∈ ds, d.wf) ∧ RdS W.heap.size W v ds.length 200 (ltsCells ds) := by
  have hc : Cell.okWide Tryz.prog W .any base 54 v := by
    unfold Value.okWide at h
    rw [Tryz.underlying54] at h
    exact h
  obtain ⟨ao, n, k, rfl, h1, h2, h3⟩ := slice_cell Tryz.underlying54 hc
  rcases h3 with ⟨rfl, rfl, rfl⟩ | ⟨g, o, rfl, hg⟩
  · exact ⟨[], by simp, none, 0, rfl, Nat.le_refl _, h2, rfl, Or.inl rfl⟩
  · obtain ⟨fuel, ht⟩ := ht
    rcases DataW.trod_slice Tryz.underlying54 ht with ⟨h0, _⟩ | ⟨a, len, cap, elems, rest, m, _, e1, _, _, _, _, hel, hi, _⟩
    · simp [Value.cells] at h0
    · simp only [Value.cells, List.cons.injEq, Value.slice.injEq, Option.some.injEq, and_true] at e1
      obtain ⟨rfl, rfl, rfl⟩ := e1
      rw [light_cells_num] at hi
      obtain ⟨l, hl, hq⟩ := list_of (Q := fun i (d : LtR) => d.wf ∧ RowAt W g (o + i * 200) d.cells) n (fun i hin => by
        have h1 := hi i hin
        rw [List.getElem?_eq_getElem (by omega), Option.bind_eq_some_iff] at h1
        obtain ⟨cs, h2, h3⟩ := h1
        obtain ⟨hcl, hc⟩ := cells_two h2
        obtain ⟨d, hd, rfl⟩ := light_trod h3
        refine ⟨d, hd, ?_⟩
        intro j v hj
        have hj2 : j < 200 := by have := (List.getElem?_eq_some_iff.1 hj).1; omega
        have := hc j hj2
        rw [addr_add, addr_add] at this
        rw [this]; exact hj)
      have hw : ∀ d ∈ l, d.wf := fun d hd => by
        obtain ⟨i, hi2, rfl⟩ := List.getElem_of_mem hd
        exact (hq i hi2).1
      subst hl
      exact ⟨l, hw, _, k, rfl, h1, h2, flat_length LtR.cells 200 l (fun d hd => d.cells_length (hw d hd)), Or.inr ⟨g, o, rfl, hg, row_of' l o (fun d hd => d.cells_length (hw d hd)) (fun i hi => (hq i hi).2)⟩⟩
end

end Go.Proofs.YtbhghlendbcejaaGreatDoor
