/- What comes in: bytes. -/
import Derived.Test.YtaffpgafbjhahaaDoorOpen
import Derived.Test.YtaffpgafbjhahaaDoorRead
import Derived.ChangeSlices
namespace Go.Proofs.YtaffpgafbjhahaaDoor
open Go.RowKit Go.ChangeShapes Go.WideShapes
set_option maxRecDepth 100000

section
variable {H : Type} {enc : TypeId × Value → H} {W : World} {base b : Nat} {sp : Nat → Bool} {held : Bool}
theorem okWide_cell {P : Program} {t e : TypeId} {v : Value} (hu : P.underlying t = some (.slice e)) (h : Value.okWide P W .any base t v) : Cell.okWide P W .any base t v := by
  unfold Value.okWide at h; rw [hu] at h; exact h
theorem bytes_open {v : Value} {d : DataW H} {ps : List MemPlace} (h : Value.okWide Tryd.prog W .any base 30 v) (ht : DataW.Trod enc Tryd.prog W b sp held 30 v d ps) : ∃ l, RdB W v l := by
  obtain ⟨ao, n, k, rfl, hnk, hk, hs⟩ := slice_cell Tryd.underlying30 (okWide_cell Tryd.underlying30 h)
  rcases hs with ⟨rfl, rfl, rfl⟩ | ⟨g, o, rfl, hg⟩
  · exact ⟨[], none, 0, rfl, Nat.le_refl _, hk, Or.inl ⟨rfl, rfl, rfl⟩⟩
  · obtain ⟨fuel, ht⟩ := ht
    rcases open_ints Tryd.underlying30 Tryd.underlying5 (by kernel_rfl) ht with ⟨h0, _⟩ | ⟨a, len, cap, zs, e, _, hl, hm, hzl, _, hc, hw⟩
    · simp [Value.cells] at h0
    · have e' : [Value.slice (some ⟨g, o, none⟩) n k] = [Value.slice (some a) len cap] := e
      simp only [List.cons.injEq, Value.slice.injEq, Option.some.injEq, and_true] at e'
      obtain ⟨rfl, rfl, rfl⟩ := e'
      have hn : n ≤ zs.length := by rw [hzl]; split <;> omega
      refine ⟨(zs.take n).map fun z => UInt8.ofNat z.toNat, ⟨some ⟨g, o, none⟩, k, by simp [Nat.min_eq_left hn], by simp [Nat.min_eq_left hn]; exact hl, hm, Or.inr ⟨g, o, rfl, hg, ?_⟩⟩⟩
      intro j v hj
      have hj2 : j < n := by
        have := (List.getElem?_eq_some_iff.1 hj).1
        rw [Lib.byteCells_length] at this
        simp at this; omega
      have hjz : j < zs.length := by omega
      have h1 := hc j hjz
      rw [addr_add] at h1
      rw [h1]
      have hz : zs.getD j 0 = zs[j] := by simp [List.getD, List.getElem?_eq_getElem hjz]
      have h2 := hw zs[j] (List.getElem_mem hjz)
      simp [Lit.wf, IntKind.min, IntKind.max, IntKind.signed, IntKind.bits] at h2
      rw [← hj]
      unfold Lib.byteCells
      simp [hj2, hjz, hz]
      omega
end

end Go.Proofs.YtaffpgafbjhahaaDoor
