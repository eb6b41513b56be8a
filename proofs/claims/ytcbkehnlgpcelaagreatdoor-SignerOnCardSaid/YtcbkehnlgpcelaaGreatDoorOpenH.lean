/- What comes in: headers, pairs of headers and of lists of validators; the digest's roots as they are laid. The first string of a vote, of a header, of a light block that came in is no longer than what memory reaches. -/
import Derived.Test.YtcbkehnlgpcelaaGreatDoorOpen3
import Derived.Test.YtcbkehnlgpcelaaGreatDoorDecHeader
import Derived.Test.YtcbkehnlgpcelaaGreatDoorBkW
import Derived.Test.YtcbkehnlgpcelaaGreatDoorRows
import Derived.MakeChecks
import Derived.ProofKit
import Derived.ChangeArms
import Derived.SizedLaws
namespace Go.Proofs.YtcbkehnlgpcelaaGreatDoor
open Go.RowKit Go.ChangeShapes Go.WideShapes
set_option maxRecDepth 100000

section
variable {W : World} {base : Nat}
def headerTs : List TypeId := [9, 3, 3] ++ (List.replicate 32 5 ++ (List.replicate 32 5 ++ (List.replicate 32 5 ++ (List.replicate 32 5 ++ List.replicate 32 5))))
theorem header_cells {ts : List TypeId} {cs : List Value} (hc : CellsOk Tryz.prog W base (headerTs ++ ts) cs) : ∃ (d : HeaderD) (rest : List Value), d.wf ∧ cs = d.cells ++ rest ∧ CellsOk Tryz.prog W base ts rest := by
  unfold headerTs at hc
  simp only [List.append_assoc] at hc
  obtain ⟨c0, r0, rfl, h0, hc⟩ := cellsOk_cons hc
  obtain ⟨c1, r1, rfl, h1, hc⟩ := cellsOk_cons hc
  obtain ⟨c2, r2, rfl, h2, hc⟩ := cellsOk_cons hc
  obtain ⟨l1, r3, rfl, hl1, hc⟩ := bytes_cells Tryz.underlying5 32 _ _ hc
  obtain ⟨l2, r4, rfl, hl2, hc⟩ := bytes_cells Tryz.underlying5 32 _ _ hc
  obtain ⟨l3, r5, rfl, hl3, hc⟩ := bytes_cells Tryz.underlying5 32 _ _ hc
  obtain ⟨l4, r6, rfl, hl4, hc⟩ := bytes_cells Tryz.underlying5 32 _ _ hc
  obtain ⟨l5, r7, rfl, hl5, hfin⟩ := bytes_cells Tryz.underlying5 32 _ _ hc
  obtain ⟨s, rfl, q0⟩ := string_cell Tryz.underlying9 h0
  obtain ⟨n1, rfl, q1⟩ := i64_cell Tryz.underlying3 h1
  obtain ⟨n2, rfl, q2⟩ := i64_cell Tryz.underlying3 h2
  exact ⟨⟨s, n1, n2, l1, l2, l3, l4, l5⟩, r7, ⟨q0, q1, q2, hl1, hl2, hl3, hl4, hl5⟩, by simp [HeaderD.cells], hfin⟩
theorem header_types : Tryz.prog.cellTypes Tryz.prog.depth 78 = some (headerTs ++ []) := by kernel_rfl
theorem header_open {v : Value} (h : Value.okWide Tryz.prog W .any base 78 v) : ∃ d : HeaderD, d.wf ∧ v = .agg d.cells.toArray := by
  obtain ⟨cs, rfl, hc⟩ := cells_open h (by kernel_rfl) header_types (by kernel_rfl)
  obtain ⟨d, r, hd, rfl, hk⟩ := header_cells hc
  obtain rfl := cellsOk_nil hk
  exact ⟨d, hd, by rw [List.append_nil]⟩
end
section
variable {H : Type} {enc : TypeId × Value → H} {W : World} {base b : Nat} {sp : Nat → Bool} {held : Bool}
end
/-- the roots, as laid -/
theorem roots_laid {W : World} (h : laidMetH Tryz.prog [("nuncio/blake.roots", Rows.laid_nuncio_blake_roots), ("bytes.ErrTooLarge", Rows.laid_bytes_ErrTooLarge)] W) : RowAt W 3 0 (wCells rootsL) := by
  rw [MakeChecks.laidMetH_plain _ _ _ (by kernel_rfl)] at h
  obtain ⟨ps, ⟨g, t, cs, fuel, p, q, hg, ht, hv, hd, _, _⟩, _, _⟩ := h
  obtain rfl := Option.some.inj ((show Tryz.prog.globalNamed "nuncio/blake.roots" = some 3 by kernel_rfl).symm.trans hg)
  obtain rfl := Option.some.inj ((show (Tryz.prog.globals[3]?).map (·.type) = some 203 by kernel_rfl).symm.trans ht)
  obtain ⟨xs, m, _, ex, _, hl, hel⟩ := DataW.trod_array Tryz.underlying203 hd
  have c5 : Tryz.prog.cellsOf 177 = 1 := by kernel_rfl
  have hlen : rootsL.length = 8 := rfl
  have e3 : (xs.map (·.1)) = rootsL.map fun (n : Nat) => (DataW.lit (.int .u32 (n : Int)) : DataW Unit) := (DataW.agg.inj (Prod.mk.inj ex).1).symm
  intro r v hr
  have hr8 : r < 8 := by have := (List.getElem?_eq_some_iff.1 hr).1; rw [wCells_length, hlen] at this; exact this
  rw [wCells_get rootsL r (by omega)] at hr
  injection hr with hr
  subst hr
  have hE := hel r hr8
  rw [c5, Nat.mul_one, List.getElem?_eq_getElem (by omega)] at hE
  obtain ⟨z, e1, e2, _⟩ := DataW.trod_int Tryz.underlying177 hE
  have e4 : (xs.map (·.1))[r]? = (rootsL.map fun (n : Nat) => (DataW.lit (.int .u32 (n : Int)) : DataW Unit))[r]? := by rw [e3]
  rw [List.getElem?_map, List.getElem?_map, List.getElem?_eq_getElem (by omega : r < xs.length), List.getElem?_eq_getElem (by omega : r < rootsL.length), e2] at e4
  have hz : z = (gV rootsL r : Int) := by
    simp only [Option.map_some, Option.some.injEq, DataW.lit.injEq, Lit.int.injEq, true_and] at e4
    rw [e4]; unfold gV; rw [List.getD, List.getElem?_eq_getElem (by omega : r < rootsL.length)]; rfl
  rw [Nat.zero_add, World.var?_cell hg hv r, ← hz]
  have : cs.toList[r]? = some (.int .u32 z) := by
    have h0 : ((cs.toList.drop r).take 1)[0]? = some (.int .u32 z) := by rw [e1]; rfl
    simpa using h0
  simpa using this

section
variable {H : Type} {enc : TypeId × Value → H} {P : Program} {W : World} {b : Nat} {sp : Nat → Bool} {held : Bool}
theorem weights_agg {t : TypeId} {fs : Array Field} {ds : List (DataW H)} (hu : P.underlying t = some (.struct fs)) : DataW.weights P t (.agg ds) = DataW.weightsEach P (fs.toList.map (·.type)) ds := by
  unfold DataW.weights
  rw [hu]
theorem string_weight {t : TypeId} {fuel : Nat} {x : DataW H × List MemPlace} {s : ByteArray} (hu : P.underlying t = some .string) (h : DataW.trod enc P W b sp held fuel t [.string s] = some x) : s.size ∈ x.1.weights P t := by
  obtain ⟨s', e, rfl, _⟩ := DataW.trod_string hu h
  have : s = s' := by simpa using e
  subst this
  simp [DataW.weights]
theorem field_weight {t : TypeId} {fs : Array Field} {cs : List Value} {fuel : Nat} {x : DataW H × List MemPlace} {n : Nat} (hu : P.underlying t = some (.struct fs)) (h : DataW.trod enc P W b sp held fuel t cs = some x)
    (j : Nat) {f : Field} (hf : fs[j]? = some f) (hq : ∀ (m : Nat) (y : DataW H × List MemPlace), DataW.trod enc P W b sp held m f.type ((cs.drop f.offset).take (P.cellsOf f.type)) = some y → n ∈ y.1.weights P f.type) : n ∈ x.1.weights P t := by
  obtain ⟨xs, m, _, rfl, _, hxs, hfs⟩ := DataW.trod_struct hu h
  have hj := hfs j f hf
  have hjl : j < xs.length := by rw [hxs]; exact (Array.getElem?_eq_some_iff.1 hf).1
  rw [List.getElem?_eq_getElem hjl] at hj
  have hn := hq m _ hj
  rw [weights_agg hu]
  refine DataW.weights_mem_each (j := j) (t := f.type) (d := xs[j].1) ?_ ?_ n hn
  · rw [List.getElem?_map, Array.getElem?_toList, hf]; rfl
  · rw [List.getElem?_map, List.getElem?_eq_getElem hjl]; rfl
end

section
variable {H : Type} {enc : TypeId × Value → H} {W : World} {b : Nat} {sp : Nat → Bool} {held : Bool} {D : DataW H} {ps : List MemPlace}
theorem one_string : Tryz.prog.cellsOf 9 = 1 := by kernel_rfl
theorem header_cells_num : Tryz.prog.cellsOf 78 = 163 := by kernel_rfl
theorem vote_chain {d : VoteD} (h : DataW.Trod enc Tryz.prog W b sp held 40 d.val D ps) : d.chain.size ∈ D.weights Tryz.prog 40 := by
  obtain ⟨fuel, h⟩ := h
  refine field_weight Tryz.underlying40 h 0 rfl ?_
  intro m y hy
  show d.chain.size ∈ y.1.weights Tryz.prog 9
  refine string_weight (enc := enc) (W := W) (b := b) (sp := sp) (held := held) (fuel := m) (x := y) (s := d.chain) Tryz.underlying9 (Eq.trans ?_ hy)
  have e : (d.val.cells.toList.drop 0).take (Tryz.prog.cellsOf 9) = [.string d.chain] := by rw [one_string]; simp [VoteD.val, VoteD.cells, Value.cells]
  exact congrArg (DataW.trod enc Tryz.prog W b sp held m 9) e.symm
theorem header_chain_at {fuel : Nat} {d : HeaderD} {x : DataW H × List MemPlace} (h : DataW.trod enc Tryz.prog W b sp held fuel 78 d.cells = some x) : d.chain.size ∈ x.1.weights Tryz.prog 78 := by
  refine field_weight Tryz.underlying78 h 0 rfl ?_
  intro m y hy
  show d.chain.size ∈ y.1.weights Tryz.prog 9
  refine string_weight (enc := enc) (W := W) (b := b) (sp := sp) (held := held) (fuel := m) (x := y) (s := d.chain) Tryz.underlying9 (Eq.trans ?_ hy)
  have e : (d.cells.drop 0).take (Tryz.prog.cellsOf 9) = [.string d.chain] := by rw [one_string]; simp [HeaderD.cells]
  exact congrArg (DataW.trod enc Tryz.prog W b sp held m 9) e.symm
theorem header_chain {d : HeaderD} (h : DataW.Trod enc Tryz.prog W b sp held 78 (.agg d.cells.toArray) D ps) : d.chain.size ∈ D.weights Tryz.prog 78 := by
  obtain ⟨fuel, h⟩ := h
  exact header_chain_at (x := (D, ps)) (d := d) (by simpa [Value.cells] using h)
theorem sized_at {P : Program} {ts : List TypeId} {ds : List (DataW H)} {n : Nat} (h : (DataW.weightsEach P (ts ++ []) (ds ++ [])).all (· ≤ reachBytes) = true) (j : Nat) {t : TypeId} {d : DataW H} (ht : ts[j]? = some t) (hd : ds[j]? = some d) (hn : n ∈ d.weights P t) : n ≤ 140737488351232 := by
  rw [List.append_nil, List.append_nil] at h
  have := List.all_eq_true.1 h n (DataW.weights_mem_each ht hd n hn)
  have e : reachBytes = 140737488351232 := by decide
  rw [e] at this
  simpa using this
end

end Go.Proofs.YtcbkehnlgpcelaaGreatDoor
