/- What comes in: votes, packets, headers, light blocks. -/
import Derived.Test.YtlahdaanfhedoaaDoorOpen
import Derived.Test.YtlahdaanfhedoaaDoorDecPacket
import Derived.Test.YtlahdaanfhedoaaDoorDecVote
namespace Go.Proofs.YtlahdaanfhedoaaDoor
open Go.RowKit Go.ChangeShapes Go.WideShapes
set_option maxRecDepth 100000

theorem packet_types : Tryd.prog.cellTypes Tryd.prog.depth 23 = some [3, 9, 9, 3] := by kernel_rfl
theorem packet_open {W : World} {base : Nat} {v : Value} (h : Value.okWide Tryd.prog W .any base 23 v) : ∃ d : PacketD, d.wf ∧ v = d.val := by
  obtain ⟨cs, rfl, hc⟩ := cells_open h (by kernel_rfl) packet_types (by kernel_rfl)
  obtain ⟨c0, r0, rfl, h0, hc⟩ := cellsOk_cons hc
  obtain ⟨c1, r1, rfl, h1, hc⟩ := cellsOk_cons hc
  obtain ⟨c2, r2, rfl, h2, hc⟩ := cellsOk_cons hc
  obtain ⟨c3, r3, rfl, h3, hc⟩ := cellsOk_cons hc
  obtain rfl := cellsOk_nil hc
  obtain ⟨n0, rfl, q0⟩ := i64_cell Tryd.underlying3 h0
  obtain ⟨s1, rfl, q1⟩ := string_cell Tryd.underlying9 h1
  obtain ⟨s2, rfl, q2⟩ := string_cell Tryd.underlying9 h2
  obtain ⟨n3, rfl, q3⟩ := i64_cell Tryd.underlying3 h3
  exact ⟨⟨n0, s1, s2, n3⟩, ⟨q0, q1, q2, q3⟩, rfl⟩

section
variable {H : Type} {enc : TypeId × Value → H} {W : World} {base b : Nat} {sp : Nat → Bool} {held : Bool}
end

end Go.Proofs.YtlahdaanfhedoaaDoor
