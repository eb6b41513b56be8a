/- Walks: nuncioref02.Same, nunciolaw06.alive. -/
import Derived.Test.YtfnginmoiecgnaaDoorDecPacket
namespace Go.Proofs.YtfnginmoiecgnaaDoor
open Go.RowKit
set_option maxRecDepth 100000

theorem OwnB.rd {B : Nat} {v : Value} {l : List UInt8} {w : World} (h : OwnB B v l w) : RdB w v l := by
  obtain ⟨h1, ⟨rfl, h0⟩ | ⟨g, cap, cur, rfl, hg, hblk, hle, hcm, hcs, htk⟩⟩ := h
  · have : l = [] := List.length_eq_zero_iff.1 h0
    subst this
    exact ⟨none, 0, rfl, by simp, by unfold maxLen; omega, Or.inl ⟨rfl, rfl, rfl⟩⟩
  · refine ⟨_, cap, rfl, hle, hcm, Or.inr ⟨g, 0, rfl, Lib.lt_of_heap hblk, ?_⟩⟩
    intro j v hj
    rw [Nat.zero_add, Lib.cell_of_heap hblk, ← Array.getElem?_toList]
    have hlt : j < l.length := by have := (List.getElem?_eq_some_iff.1 hj).1; rwa [Lib.byteCells_length] at this
    rw [← htk, List.getElem?_take_of_lt (by omega)] at hj
    exact hj
theorem RdB.below {w w' : World} {v : Value} {l : List UInt8} (h : RdB w v l) (hb : Below w.heap.size w w') : RdB w' v l := h.grown (below_grown hb)

def alivePk : PacketD := { seq := 1, from_ := ⟨#[97]⟩, data := ⟨#[]⟩, timeout := 9 }
theorem alivePk_wf : alivePk.wf := ⟨⟨by decide, by decide⟩, by decide, by decide, ⟨by decide, by decide⟩⟩
theorem alivePk_ok : okPacket alivePk = true := by decide +kernel
theorem alivePk_dec : (decPacket (encPacket alivePk)).map PacketD.cells = some alivePk.cells := by kernel_rfl
theorem alivePk_len : (encPacket alivePk).length = 29 := by decide +kernel
theorem alivePk_7 : (encPacket alivePk)[7]? = some 6 := by decide +kernel

end Go.Proofs.YtfnginmoiecgnaaDoor
