/- What comes in: a string; a time, a clock and options. What comes in: an act of nunciolaw19's scripts, with its proof. -/
import Derived.Test.YtbhghlendbcejaaGreatDoorOpW
namespace Go.Proofs.YtbhghlendbcejaaGreatDoor
open Go.RowKit Go.ChangeShapes Go.WideShapes
set_option maxRecDepth 100000

section
variable {H : Type} {enc : TypeId × Value → H} {W : World} {base b : Nat} {sp : Nat → Bool} {held : Bool} {v : Value} {d : DataW H} {ps : List MemPlace}
theorem strS_open (h : Value.okWide Tryz.prog W .any base 9 v) : ∃ s : ByteArray, v = .string s ∧ s.size ≤ maxLen := by
  unfold Value.okWide at h
  rw [Tryz.underlying9] at h
  exact string_cell Tryz.underlying9 h
theorem strS_chain {s : ByteArray} (h : DataW.Trod enc Tryz.prog W b sp held 9 (.string s) d ps) : s.size ∈ d.weights Tryz.prog 9 := by
  obtain ⟨fuel, h⟩ := h
  have h : DataW.trod enc Tryz.prog W b sp held fuel 9 [.string s] = some (d, ps) := by simpa [Value.cells] using h
  exact string_weight Tryz.underlying9 h
end

section
variable {W : World} {base : Nat} {v : Value}
theorem act19_types : Tryz.prog.cellTypes Tryz.prog.depth 58 = some [3, 3, 41, 9, 9, 3, 44] := by kernel_rfl
theorem act19_open (h : Value.okWide Tryz.prog W .any base 58 v) : ∃ (kind i : Int) (nw : Nat) (key value : ByteArray) (sz : Int) (pa : Option Addr) (pn pc : Nat), v = .agg #[.int .i64 kind, .int .i64 i, .float .f64 nw, .string key, .string value, .int .i64 sz, .slice pa pn pc] := by
  obtain ⟨cs, rfl, hc⟩ := cells_open h (by kernel_rfl) act19_types (by kernel_rfl)
  obtain ⟨c0, r0, rfl, h0, hc⟩ := cellsOk_cons hc
  obtain ⟨c1, r1, rfl, h1, hc⟩ := cellsOk_cons hc
  obtain ⟨c2, r2, rfl, h2, hc⟩ := cellsOk_cons hc
  obtain ⟨c3, r3, rfl, h3, hc⟩ := cellsOk_cons hc
  obtain ⟨c4, r4, rfl, h4, hc⟩ := cellsOk_cons hc
  obtain ⟨c5, r5, rfl, h5, hc⟩ := cellsOk_cons hc
  obtain ⟨c6, r6, rfl, h6, hc⟩ := cellsOk_cons hc
  obtain rfl := cellsOk_nil hc
  obtain ⟨k, rfl, _⟩ := i64_cell Tryz.underlying3 h0
  obtain ⟨i, rfl, _⟩ := i64_cell Tryz.underlying3 h1
  obtain ⟨n, rfl, _⟩ := f64_cell Tryz.underlying41 h2
  obtain ⟨x, rfl, _⟩ := string_cell Tryz.underlying9 h3
  obtain ⟨y, rfl, _⟩ := string_cell Tryz.underlying9 h4
  obtain ⟨z, rfl, _⟩ := i64_cell Tryz.underlying3 h5
  obtain ⟨pa, pn, pc, rfl, _⟩ := slice_cell Tryz.underlying44 h6
  exact ⟨k, i, n, x, y, z, pa, pn, pc, rfl⟩
end

end Go.Proofs.YtbhghlendbcejaaGreatDoor
