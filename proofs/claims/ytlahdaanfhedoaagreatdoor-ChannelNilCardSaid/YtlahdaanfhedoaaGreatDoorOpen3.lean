/- What comes in: votes, packets, headers, light blocks. -/
import Derived.Test.YtlahdaanfhedoaaGreatDoorOpen
import Derived.Test.YtlahdaanfhedoaaGreatDoorDecPacket
import Derived.Test.YtlahdaanfhedoaaGreatDoorDecVote
namespace Go.Proofs.YtlahdaanfhedoaaGreatDoor
open Go.RowKit Go.ChangeShapes Go.WideShapes
set_option maxRecDepth 100000

theorem packet_types : Tryz.prog.cellTypes Tryz.prog.depth 28 = some [3, 9, 9, 3] := by kernel_rfl
theorem packet_open {W : World} {base : Nat} {v : Value} (h : Value.okWide Tryz.prog W .any base 28 v) : ∃ d : PacketD, d.wf ∧ v = d.val := by
  obtain ⟨cs, rfl, hc⟩ := cells_open h (by kernel_rfl) packet_types (by kernel_rfl)
  obtain ⟨c0, r0, rfl, h0, hc⟩ := cellsOk_cons hc
  obtain ⟨c1, r1, rfl, h1, hc⟩ := cellsOk_cons hc
  obtain ⟨c2, r2, rfl, h2, hc⟩ := cellsOk_cons hc
  obtain ⟨c3, r3, rfl, h3, hc⟩ := cellsOk_cons hc
  obtain rfl := cellsOk_nil hc
  obtain ⟨n0, rfl, q0⟩ := i64_cell Tryz.underlying3 h0
  obtain ⟨s1, rfl, q1⟩ := string_cell Tryz.underlying9 h1
  obtain ⟨s2, rfl, q2⟩ := string_cell Tryz.underlying9 h2
  obtain ⟨n3, rfl, q3⟩ := i64_cell Tryz.underlying3 h3
  exact ⟨⟨n0, s1, s2, n3⟩, ⟨q0, q1, q2, q3⟩, rfl⟩

theorem light_types : Tryz.prog.cellTypes Tryz.prog.depth 89 = some ([9, 3, 3] ++ (List.replicate 32 5 ++ (List.replicate 32 5 ++ (List.replicate 32 5 ++ (List.replicate 32 5 ++ (List.replicate 32 5 ++
    ([3, 3] ++ (List.replicate 32 5 ++ [84, 87, 87])))))))) := by kernel_rfl

section
variable {H : Type} {enc : TypeId × Value → H} {W : World} {base b : Nat} {sp : Nat → Bool} {held : Bool}
theorem vals_rep {fuel : Nat} {x : DataW H × List MemPlace} {ao : Option Addr} {n k : Nat} (h : DataW.trod enc Tryz.prog W b sp held fuel 87 [.slice ao n k] = some x) (hk : n ≤ k) (hm : k ≤ maxLen) (hs : (ao = none ∧ n = 0 ∧ k = 0) ∨ ∃ g o, ao = some ⟨g, o, none⟩ ∧ g < W.heap.size) :
    ∃ ds : List ValD, (∀ d ∈ ds, d.wf) ∧ RdS W.heap.size W (.slice ao n k) ds.length 2 (setCells ds) := by
  rcases hs with ⟨rfl, rfl, rfl⟩ | ⟨g, o, rfl, hg⟩
  · exact ⟨[], by simp, none, 0, rfl, Nat.le_refl _, hm, rfl, Or.inl rfl⟩
  · obtain ⟨ds, h1, h2, h3⟩ := vals_open h
    subst h1
    exact ⟨ds, h2, _, k, rfl, hk, hm, flat_length ValD.cells 2 ds (fun d _ => d.cells_length), Or.inr ⟨g, o, rfl, hg, h3⟩⟩
theorem seals_rep {fuel : Nat} {x : DataW H × List MemPlace} {ao : Option Addr} {n k : Nat} (h : DataW.trod enc Tryz.prog W b sp held fuel 84 [.slice ao n k] = some x) (hk : n ≤ k) (hm : k ≤ maxLen) (hs : (ao = none ∧ n = 0 ∧ k = 0) ∨ ∃ g o, ao = some ⟨g, o, none⟩ ∧ g < W.heap.size) :
    ∃ ds : List SealD, (∀ d ∈ ds, d.wf) ∧ RdS W.heap.size W (.slice ao n k) ds.length 3 (sealCells ds) := by
  rcases hs with ⟨rfl, rfl, rfl⟩ | ⟨g, o, rfl, hg⟩
  · exact ⟨[], by simp, none, 0, rfl, Nat.le_refl _, hm, rfl, Or.inl rfl⟩
  · obtain ⟨ds, h1, h2, h3⟩ := seals_open h
    subst h1
    exact ⟨ds, h2, _, k, rfl, hk, hm, flat_length SealD.cells 3 ds (fun d _ => d.cells_length), Or.inr ⟨g, o, rfl, hg, h3⟩⟩

/-- a light block that came in -/
theorem light_open {v : Value} {d : DataW H} {ps : List MemPlace} (h : Value.okWide Tryz.prog W .any base 89 v) (ht : DataW.Trod enc Tryz.prog W b sp held 89 v d ps) :
    ∃ (l : LightD) (cs : List Value), l.wf ∧ v = .agg cs.toArray ∧ l.rep W.heap.size W cs := by
  obtain ⟨cs, rfl, hc⟩ := cells_open h (by kernel_rfl) light_types (by kernel_rfl)
  obtain ⟨c0, r0, rfl, h0, hc⟩ := cellsOk_cons hc
  obtain ⟨c1, r1, rfl, h1, hc⟩ := cellsOk_cons hc
  obtain ⟨c2, r2, rfl, h2, hc⟩ := cellsOk_cons hc
  obtain ⟨l1, r3, rfl, hl1, hc⟩ := bytes_cells Tryz.underlying5 32 _ _ hc
  obtain ⟨l2, r4, rfl, hl2, hc⟩ := bytes_cells Tryz.underlying5 32 _ _ hc
  obtain ⟨l3, r5, rfl, hl3, hc⟩ := bytes_cells Tryz.underlying5 32 _ _ hc
  obtain ⟨l4, r6, rfl, hl4, hc⟩ := bytes_cells Tryz.underlying5 32 _ _ hc
  obtain ⟨l5, r7, rfl, hl5, hc⟩ := bytes_cells Tryz.underlying5 32 _ _ hc
  obtain ⟨c3, r8, rfl, h3, hc⟩ := cellsOk_cons hc
  obtain ⟨c4, r9, rfl, h4, hc⟩ := cellsOk_cons hc
  obtain ⟨l6, r10, rfl, hl6, hc⟩ := bytes_cells Tryz.underlying5 32 _ _ hc
  obtain ⟨c5, r11, rfl, h5, hc⟩ := cellsOk_cons hc
  obtain ⟨c6, r12, rfl, h6, hc⟩ := cellsOk_cons hc
  obtain ⟨c7, r13, rfl, h7, hc⟩ := cellsOk_cons hc
  obtain rfl := cellsOk_nil hc
  obtain ⟨s, rfl, q0⟩ := string_cell Tryz.underlying9 h0
  obtain ⟨n1, rfl, q1⟩ := i64_cell Tryz.underlying3 h1
  obtain ⟨n2, rfl, q2⟩ := i64_cell Tryz.underlying3 h2
  obtain ⟨n3, rfl, q3⟩ := i64_cell Tryz.underlying3 h3
  obtain ⟨n4, rfl, q4⟩ := i64_cell Tryz.underlying3 h4
  obtain ⟨a5, m5, k5, rfl, z5, y5, x5⟩ := slice_cell Tryz.underlying84 h5
  obtain ⟨a6, m6, k6, rfl, z6, y6, x6⟩ := slice_cell Tryz.underlying87 h6
  obtain ⟨a7, m7, k7, rfl, z7, y7, x7⟩ := slice_cell Tryz.underlying87 h7
  obtain ⟨fuel, ht⟩ := ht
  obtain ⟨hd, ehd⟩ : ∃ hd : HeaderD, hd = ⟨s, n1, n2, l1, l2, l3, l4, l5⟩ := ⟨_, rfl⟩
  have hdw : hd.wf := by subst ehd; exact ⟨q0, q1, q2, hl1, hl2, hl3, hl4, hl5⟩
  have hdl := hd.cells_length hdw
  obtain ⟨cc, ecc⟩ : ∃ cc : List Value, cc = [.int .i64 n3, .int .i64 n4] ++ Lib.byteCells l6 ++ [.slice a5 m5 k5] := ⟨_, rfl⟩
  have ccl : cc.length = 35 := by rw [ecc]; simp [Lib.byteCells_length, hl6]
  have ecs : (.string s :: .int .i64 n1 :: .int .i64 n2 :: (Lib.byteCells l1 ++ (Lib.byteCells l2 ++ (Lib.byteCells l3 ++ (Lib.byteCells l4 ++ (Lib.byteCells l5 ++ (.int .i64 n3 :: .int .i64 n4 :: (Lib.byteCells l6 ++ [.slice a5 m5 k5, .slice a6 m6 k6, .slice a7 m7 k7]))))))) : List Value) = hd.cells ++ cc ++ [.slice a6 m6 k6, .slice a7 m7 k7] := by
    subst ehd ecc; simp [HeaderD.cells]
  rw [ecs] at ht ⊢
  have ht : DataW.trod enc Tryz.prog W b sp held fuel 89 (hd.cells ++ cc ++ [Value.slice a6 m6 k6, Value.slice a7 m7 k7]) = some (d, ps) := by simpa [Value.cells] using ht
  obtain ⟨xs, n, _, _, _, hxs, hf⟩ := DataW.trod_struct Tryz.underlying89 ht
  have f1 := hf 1 _ rfl
  have f2 := hf 2 _ rfl
  have f3 := hf 3 _ rfl
  rw [List.getElem?_eq_getElem (by rw [hxs]; decide)] at f1 f2 f3
  have t1 : ((hd.cells ++ cc ++ [Value.slice a6 m6 k6, Value.slice a7 m7 k7]).drop 163).take 35 = cc := by rw [List.append_assoc, List.drop_left' hdl, List.take_left' ccl]
  have t2 : ((hd.cells ++ cc ++ [Value.slice a6 m6 k6, Value.slice a7 m7 k7]).drop 198).take 1 = [.slice a6 m6 k6] := by rw [List.drop_left' (by simp [hdl, ccl])]; rfl
  have t3 : ((hd.cells ++ cc ++ [Value.slice a6 m6 k6, Value.slice a7 m7 k7]).drop 199).take 1 = [.slice a7 m7 k7] := by
    rw [show hd.cells ++ cc ++ [Value.slice a6 m6 k6, Value.slice a7 m7 k7] = (hd.cells ++ cc ++ [Value.slice a6 m6 k6]) ++ [Value.slice a7 m7 k7] by simp, List.drop_left' (by simp [hdl, ccl])]; rfl
  obtain ⟨_, f1'⟩ : ∃ z, DataW.trod enc Tryz.prog W b sp held n 86 cc = some z := ⟨_, (congrArg (fun z => DataW.trod enc Tryz.prog W b sp held n 86 z) t1.symm).trans f1⟩
  obtain ⟨_, f2'⟩ : ∃ z, DataW.trod enc Tryz.prog W b sp held n 87 [.slice a6 m6 k6] = some z := ⟨_, (congrArg (fun z => DataW.trod enc Tryz.prog W b sp held n 87 z) t2.symm).trans f2⟩
  obtain ⟨_, f3'⟩ : ∃ z, DataW.trod enc Tryz.prog W b sp held n 87 [.slice a7 m7 k7] = some z := ⟨_, (congrArg (fun z => DataW.trod enc Tryz.prog W b sp held n 87 z) t3.symm).trans f3⟩
  obtain ⟨ys, n', _, _, _, hys, hg⟩ := DataW.trod_struct Tryz.underlying86 f1'
  have g3 := hg 3 _ rfl
  rw [List.getElem?_eq_getElem (by rw [hys]; decide)] at g3
  have t4 : (cc.drop 34).take 1 = [.slice a5 m5 k5] := by rw [ecc, List.drop_left' (by simp [Lib.byteCells_length, hl6])]; rfl
  obtain ⟨_, g3'⟩ : ∃ z, DataW.trod enc Tryz.prog W b sp held n' 84 [.slice a5 m5 k5] = some z := ⟨_, (congrArg (fun z => DataW.trod enc Tryz.prog W b sp held n' 84 z) t4.symm).trans g3⟩
  obtain ⟨ss, sw, sr⟩ := seals_rep g3' z5 y5 x5
  obtain ⟨vs, vw, vr⟩ := vals_rep f2' z6 y6 x6
  obtain ⟨ns, nw, nr⟩ := vals_rep f3' z7 y7 x7
  exact ⟨⟨hd, ⟨n3, n4, l6, ss⟩, vs, ns⟩, _, ⟨hdw, ⟨q3, q4, hl6, sw⟩, vw, nw⟩, rfl, cc, _, _, ⟨_, sr, ecc⟩, vr, nr, rfl⟩
end

end Go.Proofs.YtlahdaanfhedoaaGreatDoor
