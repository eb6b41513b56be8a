/- Walks of the document's digest's small steps: a turn, an order, a root. -/
import Derived.Test.YtaffpgafbjhahaaDoorProg
import Derived.Test.YtaffpgafbjhahaaDoorBk
import Derived.Test.YtaffpgafbjhahaaDoorBuild
import Derived.StillTailTactics
import Derived.Lib.Hide
import Derived.Deep.Cut
import Derived.Deep.CutRange
namespace Go.Proofs.YtaffpgafbjhahaaDoor
open Go.RowKit
set_option maxRecDepth 100000

theorem ord_of2 (L : List UInt8) (hL : L.map UInt8.toNat = ordersL) (k : Nat) (h : k < (⟨L.toArray⟩ : ByteArray).size) : ((⟨L.toArray⟩ : ByteArray)[k]'h).toNat = ordC k := by
  have hlt : k < L.length := by simpa [ByteArray.size] using h
  show ((L.toArray)[k]'(by simpa using hlt)).toNat = _
  unfold ordC
  rw [← hL, List.getD_eq_getElem?_getD, List.getElem?_map, List.getElem?_eq_getElem hlt]
  simp
set_option maxHeartbeats 800000 in
theorem order_ok (r i : Nat) (w : World) (hr : r < 10) (hi : i < 16) :
    Calls Tryd.prog 155 #[.int .i64 r, .int .i64 i] w fun e w' => e = .returned (.int .i64 (sg (16 * r + i) : Int)) ∧ w' = w := by
  obtain ⟨k, hk⟩ : ∃ k, 16 * r + i = k := ⟨_, rfl⟩
  have hk1 : 16 * (r : Int) + (i : Int) = (k : Int) := by omega
  have hw1 : IntKind.i64.wrap (16 * (r : Int)) = 16 * (r : Int) := by simp [IntKind.wrap, IntKind.bits, IntKind.signed]; omega
  have hkw : IntKind.i64.wrap (k : Int) = (k : Int) := by simp [IntKind.wrap, IntKind.bits, IntKind.signed]; omega
  have hk2 : (k : Int) < 160 := by omega
  rw [hk]
  clear hk hr hi
  go_enter Tryd.func155, Tryd.ntmps155
  go_upto_region 3 with (fail)
  rw [ord_of2 [48, 49, 50, 51, 52, 53, 54, 55, 56, 57, 97, 98, 99, 100, 101, 102, 101, 97, 52, 56, 57, 102, 100, 54, 49, 99, 48, 50, 98, 55, 53, 51, 98, 56, 99, 48, 53, 50, 102, 100, 97, 101, 51, 54, 55, 49, 57, 52, 55, 57, 51, 49, 100, 99, 98, 101, 50, 54, 53, 97, 52, 48, 102, 56, 57, 48, 53, 55, 50, 52, 97, 102, 101, 49, 98, 99, 54, 56, 51, 100, 50, 99, 54, 97, 48, 98, 56, 51, 52, 100, 55, 53, 102, 101, 49, 57, 99, 53, 49, 102, 101, 100, 52, 97, 48, 55, 54, 51, 57, 50, 56, 98, 100, 98, 55, 101, 99, 49, 51, 57, 53, 48, 102, 52, 56, 54, 50, 97, 54, 102, 101, 57, 98, 51, 48, 56, 99, 50, 100, 55, 49, 52, 97, 53, 97, 50, 56, 52, 55, 54, 49, 53, 102, 98, 57, 101, 51, 99, 100, 48] (by kernel_rfl) k (by show k < 160; omega)]
  have ho := ordC_ok k
  have hg : sg k = figN (ordC k) := rfl
  obtain ⟨c, hc⟩ : ∃ c, ordC k = c := ⟨_, rfl⟩
  rw [hc] at ho hg ⊢
  simp [figOk] at ho
  have Hg := Lib.hid hg
  clear hc hg hkw hw1 hk1
  have hc2 : c < 256 := by omega
  by_cases h97 : 97 ≤ c
  · go_wp2
    go_ret
    refine ⟨?_, rfl⟩
    rw [Hg.out]; unfold figN; rw [if_pos h97]
    simp; omega
  · go_wp2
    go_ret
    refine ⟨?_, rfl⟩
    rw [Hg.out]; unfold figN; rw [if_neg h97]
    simp; omega

def rootVs : List Value := wCells rootsL
theorem u32_zs : (Tryd.prog.info? 198).map (fun i => (i.zero, i.size)) = some (some (.int .u32 0), 1) := by kernel_rfl
set_option maxHeartbeats 800000 in
theorem root_ok (i : Nat) (w : World) (hi : i < 8) :
    Calls Tryd.prog 148 #[.int .i64 i] w fun e w' => e = .returned (.int .u32 (gV rootsL i : Int)) ∧ w.grownBy w' none := by
  have hii : (i : Int) < 8 := by omega
  go_enter Tryd.func148, Tryd.ntmps148
  go_wp2_with (refine wpList_buildSlice_all rfl 197 8 _ rfl rootVs (by kernel_rfl) (by kernel_rfl) rootVs (by kernel_rfl) 198 _ 1 Tryd.underlying197 u32_zs (by intro v hv; obtain ⟨n, _, rfl⟩ := List.mem_map.1 hv; rfl) (by decide) ?_)
  intro w2 b2 g2 s2
  have c := b2.row i (.int .u32 (gV rootsL i : Int)) (wCells_get rootsL i hi)
  rw [Nat.zero_add] at c
  have G := Lib.hid g2
  clear b2 g2 s2
  go_wp2
  go_ret
  exact ⟨rfl, G.out⟩

end Go.Proofs.YtaffpgafbjhahaaDoor
