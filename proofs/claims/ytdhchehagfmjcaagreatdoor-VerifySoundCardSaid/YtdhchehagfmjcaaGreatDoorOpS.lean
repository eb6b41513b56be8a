/- What comes in: a string; a time, a clock and options. -/
import Derived.Test.YtdhchehagfmjcaaGreatDoorOpW
namespace Go.Proofs.YtdhchehagfmjcaaGreatDoor
open Go.RowKit Go.ChangeShapes Go.WideShapes
set_option maxRecDepth 100000

section
variable {H : Type} {enc : TypeId × Value → H} {W : World} {base b : Nat} {sp : Nat → Bool} {held : Bool} {v : Value} {d : DataW H} {ps : List MemPlace}
theorem strS_open (h : Value.okWide Tryz.prog W .any base 9 v) : ∃ s : ByteArray, v = .string s ∧ s.size ≤ maxLen := by
  unfold Value.okWide at h
  rw [Tryz.underlying9] at h
  exact string_cell Tryz.underlying9 h
theorem strS_chain {s : ByteArray} (h : DataW.Trod enc Tryz.prog W b sp held 9 (.string s) d ps) : s.size ∈ d.weights Tryz.prog 9 := by
  obtain ⟨fuel, h⟩ := h
  have h : DataW.trod enc Tryz.prog W b sp held fuel 9 [.string s] = some (d, ps) := by simpa [Value.cells] using h
  exact string_weight Tryz.underlying9 h
theorem times_types : Tryz.prog.cellTypes Tryz.prog.depth 42 = some [3, 33, 33, 33, 33] := by kernel_rfl
theorem times_open (h : Value.okWide Tryz.prog W .any base 42 v) : ∃ (t : Int) (now : Nat) (o : OptD), i64R t ∧ now < 18446744073709551616 ∧ o.wf ∧ v = .agg (.int .i64 t :: .float .f64 now :: o.cells).toArray := by
  obtain ⟨cs, rfl, hc⟩ := cells_open h (by kernel_rfl) times_types (by kernel_rfl)
  obtain ⟨c, r, rfl, h9, hc⟩ := cellsOk_cons hc
  obtain ⟨c9, r9, rfl, h8, hc⟩ := cellsOk_cons hc
  obtain ⟨c0, r0, rfl, h0, hc⟩ := cellsOk_cons hc
  obtain ⟨c1, r1, rfl, h1, hc⟩ := cellsOk_cons hc
  obtain ⟨c2, r2, rfl, h2, hc⟩ := cellsOk_cons hc
  obtain rfl := cellsOk_nil hc
  obtain ⟨t, rfl, q9⟩ := i64_cell Tryz.underlying3 h9
  obtain ⟨n, rfl, q8⟩ := f64_cell Tryz.underlying33 h8
  obtain ⟨x, rfl, q0⟩ := f64_cell Tryz.underlying33 h0
  obtain ⟨y, rfl, q1⟩ := f64_cell Tryz.underlying33 h1
  obtain ⟨z, rfl, q2⟩ := f64_cell Tryz.underlying33 h2
  exact ⟨t, n, ⟨x, y, z⟩, q9, q8, ⟨q0, q1, q2⟩, rfl⟩
end

end Go.Proofs.YtdhchehagfmjcaaGreatDoor
