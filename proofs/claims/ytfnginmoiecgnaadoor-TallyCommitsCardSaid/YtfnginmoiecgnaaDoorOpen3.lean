/- What comes in: votes, packets, headers, light blocks. -/
import Derived.Test.YtfnginmoiecgnaaDoorOpen
import Derived.Test.YtfnginmoiecgnaaDoorDecPacket
import Derived.Test.YtfnginmoiecgnaaDoorDecVote
namespace Go.Proofs.YtfnginmoiecgnaaDoor
open Go.RowKit Go.ChangeShapes Go.WideShapes
set_option maxRecDepth 100000

section
variable {H : Type} {enc : TypeId × Value → H} {W : World} {base b : Nat} {sp : Nat → Bool} {held : Bool}
theorem vals_rep {fuel : Nat} {x : DataW H × List MemPlace} {ao : Option Addr} {n k : Nat} (h : DataW.trod enc Tryd.prog W b sp held fuel 38 [.slice ao n k] = some x) (hk : n ≤ k) (hm : k ≤ maxLen) (hs : (ao = none ∧ n = 0 ∧ k = 0) ∨ ∃ g o, ao = some ⟨g, o, none⟩ ∧ g < W.heap.size) :
    ∃ ds : List ValD, (∀ d ∈ ds, d.wf) ∧ RdS W.heap.size W (.slice ao n k) ds.length 2 (setCells ds) := by
  rcases hs with ⟨rfl, rfl, rfl⟩ | ⟨g, o, rfl, hg⟩
  · exact ⟨[], by simp, none, 0, rfl, Nat.le_refl _, hm, rfl, Or.inl ⟨rfl, rfl, rfl⟩⟩
  · obtain ⟨ds, h1, h2, h3⟩ := vals_open h
    subst h1
    exact ⟨ds, h2, _, k, rfl, hk, hm, flat_length ValD.cells 2 ds (fun d _ => d.cells_length), Or.inr ⟨g, o, rfl, hg, h3⟩⟩
theorem seals_rep {fuel : Nat} {x : DataW H × List MemPlace} {ao : Option Addr} {n k : Nat} (h : DataW.trod enc Tryd.prog W b sp held fuel 52 [.slice ao n k] = some x) (hk : n ≤ k) (hm : k ≤ maxLen) (hs : (ao = none ∧ n = 0 ∧ k = 0) ∨ ∃ g o, ao = some ⟨g, o, none⟩ ∧ g < W.heap.size) :
    ∃ ds : List SealD, (∀ d ∈ ds, d.wf) ∧ RdS W.heap.size W (.slice ao n k) ds.length 3 (sealCells ds) := by
  rcases hs with ⟨rfl, rfl, rfl⟩ | ⟨g, o, rfl, hg⟩
  · exact ⟨[], by simp, none, 0, rfl, Nat.le_refl _, hm, rfl, Or.inl ⟨rfl, rfl, rfl⟩⟩
  · obtain ⟨ds, h1, h2, h3⟩ := seals_open h
    subst h1
    exact ⟨ds, h2, _, k, rfl, hk, hm, flat_length SealD.cells 3 ds (fun d _ => d.cells_length), Or.inr ⟨g, o, rfl, hg, h3⟩⟩

end

end Go.Proofs.YtfnginmoiecgnaaDoor
