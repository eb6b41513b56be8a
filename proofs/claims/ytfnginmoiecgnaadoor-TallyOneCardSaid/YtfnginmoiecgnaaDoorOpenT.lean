/- What comes in: a list of validators, a string, a commit. -/
import Derived.Test.YtfnginmoiecgnaaDoorOpenH
namespace Go.Proofs.YtfnginmoiecgnaaDoor
open Go.RowKit Go.ChangeShapes Go.WideShapes
set_option maxRecDepth 100000

section
variable {H : Type} {enc : TypeId × Value → H} {W : World} {base b : Nat} {sp : Nat → Bool} {held : Bool} {v : Value} {d : DataW H} {ps : List MemPlace}
theorem okWide_cell' {P : Program} {t e : TypeId} {v : Value} (hu : P.underlying t = some (.slice e)) (h : Value.okWide P W .any base t v) : Cell.okWide P W .any base t v := by
  unfold Value.okWide at h; rw [hu] at h; exact h
theorem okWide_str {P : Program} {t : TypeId} {v : Value} (hu : P.underlying t = some .string) (h : Value.okWide P W .any base t v) : Cell.okWide P W .any base t v := by
  unfold Value.okWide at h; rw [hu] at h; exact h
theorem set_open (h : Value.okWide Tryd.prog W .any base 38 v) (ht : DataW.Trod enc Tryd.prog W b sp held 38 v d ps) :
    ∃ ds : List ValD, (∀ d ∈ ds, d.wf) ∧ RdS W.heap.size W v ds.length 2 (setCells ds) := by
  obtain ⟨ao, n, k, rfl, hnk, hk, hs⟩ := slice_cell Tryd.underlying38 (okWide_cell' Tryd.underlying38 h)
  obtain ⟨fuel, ht⟩ := ht
  have ht : DataW.trod enc Tryd.prog W b sp held fuel 38 [.slice ao n k] = some (d, ps) := by simpa [Value.cells] using ht
  obtain ⟨ds, h1, h2⟩ := vals_rep ht hnk hk hs
  have hl : ds.length = n := by obtain ⟨_, _, e, _⟩ := h2; injection e with _ e _; exact e.symm
  exact ⟨ds, h1, h2⟩
theorem str_open (h : Value.okWide Tryd.prog W .any base 9 v) : ∃ s : ByteArray, v = .string s ∧ s.size ≤ maxLen := string_cell Tryd.underlying9 (okWide_str Tryd.underlying9 h)
theorem str_chain {s : ByteArray} (h : DataW.Trod enc Tryd.prog W b sp held 9 (.string s) d ps) : s.size ∈ d.weights Tryd.prog 9 := by
  obtain ⟨fuel, h⟩ := h
  have h : DataW.trod enc Tryd.prog W b sp held fuel 9 [.string s] = some (d, ps) := by simpa [Value.cells] using h
  exact string_weight Tryd.underlying9 h
theorem commit_types : Tryd.prog.cellTypes Tryd.prog.depth 54 = some ([3, 3] ++ (List.replicate 32 5 ++ [52])) := by kernel_rfl
theorem commit_open (h : Value.okWide Tryd.prog W .any base 54 v) (ht : DataW.Trod enc Tryd.prog W b sp held 54 v d ps) :
    ∃ (c : CommitD) (cs : List Value), c.wf ∧ v = .agg cs.toArray ∧ c.rep W.heap.size W cs := by
  obtain ⟨cs, rfl, hc⟩ := cells_open h (by kernel_rfl) commit_types (by kernel_rfl)
  obtain ⟨c3, r8, rfl, h3, hc⟩ := cellsOk_cons hc
  obtain ⟨c4, r9, rfl, h4, hc⟩ := cellsOk_cons hc
  obtain ⟨l6, r10, rfl, hl6, hc⟩ := bytes_cells Tryd.underlying5 32 _ _ hc
  obtain ⟨c5, r11, rfl, h5, hc⟩ := cellsOk_cons hc
  obtain rfl := cellsOk_nil hc
  obtain ⟨n3, rfl, q3⟩ := i64_cell Tryd.underlying3 h3
  obtain ⟨n4, rfl, q4⟩ := i64_cell Tryd.underlying3 h4
  obtain ⟨a5, m5, k5, rfl, z5, y5, x5⟩ := slice_cell Tryd.underlying52 h5
  obtain ⟨fuel, ht⟩ := ht
  obtain ⟨cc, ecc⟩ : ∃ cc : List Value, cc = [.int .i64 n3, .int .i64 n4] ++ Lib.byteCells l6 ++ [.slice a5 m5 k5] := ⟨_, rfl⟩
  have e1 : (Value.int .i64 n3 :: .int .i64 n4 :: (Lib.byteCells l6 ++ [.slice a5 m5 k5])) = cc := by rw [ecc]; simp
  rw [e1] at ht ⊢
  have ht : DataW.trod enc Tryd.prog W b sp held fuel 54 cc = some (d, ps) := by simpa [Value.cells] using ht
  obtain ⟨ys, n', _, _, _, hys, hg⟩ := DataW.trod_struct Tryd.underlying54 ht
  have g3 := hg 3 _ rfl
  rw [List.getElem?_eq_getElem (by rw [hys]; decide)] at g3
  have t4 : (cc.drop 34).take 1 = [.slice a5 m5 k5] := by rw [ecc, List.drop_left' (by simp [Lib.byteCells_length, hl6])]; rfl
  obtain ⟨_, g3'⟩ : ∃ z, DataW.trod enc Tryd.prog W b sp held n' 52 [.slice a5 m5 k5] = some z := ⟨_, (congrArg (fun z => DataW.trod enc Tryd.prog W b sp held n' 52 z) t4.symm).trans g3⟩
  obtain ⟨ss, sw, sr⟩ := seals_rep g3' z5 y5 x5
  exact ⟨⟨n3, n4, l6, ss⟩, cc, ⟨q3, q4, hl6, sw⟩, rfl, _, sr, ecc⟩
end

end Go.Proofs.YtfnginmoiecgnaaDoor
