/- What comes in: an act of nunciolaw20's scripts; the digest's roots, laid beside tables. -/
import Derived.Test.YtlahdaanfhedoaaDoorOpen
import Derived.Test.YtlahdaanfhedoaaDoorOpen3
import Derived.Test.YtlahdaanfhedoaaDoorOpenH
namespace Go.Proofs.YtlahdaanfhedoaaDoor
open Go.RowKit Go.ChangeShapes Go.WideShapes
set_option maxRecDepth 100000

theorem bool_cell {P : Program} {W : World} {base : Nat} {t : TypeId} {c : Value} (hu : P.underlying t = some .bool) (h : Cell.okWide P W .any base t c) : ∃ b, c = .bool b := by
  unfold Cell.okWide at h
  rw [hu] at h
  unfold Cell.ok at h
  rw [hu] at h
  cases c <;> simp_all
section
variable {W : World} {base : Nat} {v : Value}
theorem str20_open (h : Value.okWide Tryd.prog W .any base 9 v) : ∃ s : ByteArray, v = .string s ∧ s.size ≤ maxLen := by
  unfold Value.okWide at h
  rw [Tryd.underlying9] at h
  exact string_cell Tryd.underlying9 h
theorem act20_types : Tryd.prog.cellTypes Tryd.prog.depth 44 = some [3, 3, 3, 3, 9, 3, 9, 4, 3, 40, 3] := by kernel_rfl
theorem act20_open (h : Value.okWide Tryd.prog W .any base 44 v) : ∃ (ak aa ai aj : Int) (ad : ByteArray) (at_ : Int) (an : ByteArray) (ao : Bool) (sz : Int) (pa : Option Addr) (pn pc : Nat) (ab : Int), v = .agg #[.int .i64 ak, .int .i64 aa, .int .i64 ai, .int .i64 aj, .string ad, .int .i64 at_, .string an, .bool ao, .int .i64 sz, .slice pa pn pc, .int .i64 ab] := by
  obtain ⟨cs, rfl, hc⟩ := cells_open h (by kernel_rfl) act20_types (by kernel_rfl)
  obtain ⟨c0, r0, rfl, h0, hc⟩ := cellsOk_cons hc
  obtain ⟨c1, r1, rfl, h1, hc⟩ := cellsOk_cons hc
  obtain ⟨c2, r2, rfl, h2, hc⟩ := cellsOk_cons hc
  obtain ⟨c3, r3, rfl, h3, hc⟩ := cellsOk_cons hc
  obtain ⟨c4, r4, rfl, h4, hc⟩ := cellsOk_cons hc
  obtain ⟨c5, r5, rfl, h5, hc⟩ := cellsOk_cons hc
  obtain ⟨c6, r6, rfl, h6, hc⟩ := cellsOk_cons hc
  obtain ⟨c7, r7, rfl, h7, hc⟩ := cellsOk_cons hc
  obtain ⟨c8, r8, rfl, h8, hc⟩ := cellsOk_cons hc
  obtain ⟨c9, r9, rfl, h9, hc⟩ := cellsOk_cons hc
  obtain ⟨ca, ra, rfl, ha, hc⟩ := cellsOk_cons hc
  obtain rfl := cellsOk_nil hc
  obtain ⟨n0, rfl, _⟩ := i64_cell Tryd.underlying3 h0
  obtain ⟨n1, rfl, _⟩ := i64_cell Tryd.underlying3 h1
  obtain ⟨n2, rfl, _⟩ := i64_cell Tryd.underlying3 h2
  obtain ⟨n3, rfl, _⟩ := i64_cell Tryd.underlying3 h3
  obtain ⟨s4, rfl, _⟩ := string_cell Tryd.underlying9 h4
  obtain ⟨n5, rfl, _⟩ := i64_cell Tryd.underlying3 h5
  obtain ⟨s6, rfl, _⟩ := string_cell Tryd.underlying9 h6
  obtain ⟨b7, rfl⟩ := bool_cell Tryd.underlying4 h7
  obtain ⟨n8, rfl, _⟩ := i64_cell Tryd.underlying3 h8
  obtain ⟨pa, pn, pc, rfl, _⟩ := slice_cell Tryd.underlying40 h9
  obtain ⟨na, rfl, _⟩ := i64_cell Tryd.underlying3 ha
  exact ⟨n0, n1, n2, n3, s4, n5, s6, b7, n8, pa, pn, pc, na, rfl⟩
end
theorem laid_tail {P : Program} {x : String × DataW Unit} {xs : List (String × DataW Unit)} {w : World} (h : laidMet P (x :: xs) w) : laidMet P xs w := by
  obtain ⟨ps, ⟨g, t, cs, fuel, p, q, _, _, _, _, hr, he⟩, hn, hf⟩ := h
  subst he
  exact ⟨q, hr, (List.nodup_append.1 hn).2.1, fun b off hm => hf b off (List.mem_append_right _ hm)⟩
/-- the roots, as laid beside tables of Go's library -/
theorem roots_laid5 {W : World} (h : laidMetH Tryd.prog [("math/bits.deBruijn32tab", Rows.laid_math_bits_deBruijn32tab), ("math/bits.deBruijn64tab", Rows.laid_math_bits_deBruijn64tab), ("internal/strconv.uint64pow10", Rows.laid_internal_strconv_uint64pow10), ("nuncio/blake.roots", Rows.laid_nuncio_blake_roots), ("bytes.ErrTooLarge", Rows.laid_bytes_ErrTooLarge)] W) : RowAt W 0 0 (wCells rootsL) := by
  refine roots_laid ?_
  rw [MakeChecks.laidMetH_plain _ _ _ (by kernel_rfl)] at h ⊢
  exact laid_tail (laid_tail (laid_tail h))

end Go.Proofs.YtlahdaanfhedoaaDoor
