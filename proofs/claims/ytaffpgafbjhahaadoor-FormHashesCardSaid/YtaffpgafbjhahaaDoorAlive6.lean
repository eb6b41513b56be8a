/- Walks: nuncioref02.Same, nunciolaw06.alive. -/
import Derived.Test.YtaffpgafbjhahaaDoorDecPacket
namespace Go.Proofs.YtaffpgafbjhahaaDoor
open Go.RowKit
set_option maxRecDepth 100000

theorem OwnB.rd {B : Nat} {v : Value} {l : List UInt8} {w : World} (h : OwnB B v l w) : RdB w v l := by
  obtain ⟨h1, ⟨rfl, h0⟩ | ⟨g, cap, cur, rfl, hg, hblk, hle, hcm, hcs, htk⟩⟩ := h
  · have : l = [] := List.length_eq_zero_iff.1 h0
    subst this
    exact ⟨none, 0, rfl, by simp, by unfold maxLen; omega, Or.inl ⟨rfl, rfl, rfl⟩⟩
  · refine ⟨_, cap, rfl, hle, hcm, Or.inr ⟨g, 0, rfl, Lib.lt_of_heap hblk, ?_⟩⟩
    intro j v hj
    rw [Nat.zero_add, Lib.cell_of_heap hblk, ← Array.getElem?_toList]
    have hlt : j < l.length := by have := (List.getElem?_eq_some_iff.1 hj).1; rwa [Lib.byteCells_length] at this
    rw [← htk, List.getElem?_take_of_lt (by omega)] at hj
    exact hj
theorem RdB.below {w w' : World} {v : Value} {l : List UInt8} (h : RdB w v l) (hb : Below w.heap.size w w') : RdB w' v l := h.grown (below_grown hb)

set_option maxHeartbeats 400000 in
theorem Same_any (va vb : Value) (la lb : List UInt8) (w : World) (ha : RdB w va la) (hb : RdB w vb lb) :
    Calls Tryd.prog 13 #[va, vb] w fun e w' => e = .returned (.bool (la == lb)) ∧ w = w' := by
  have c1 := ha.conv; have c2 := hb.conv
  clear ha hb
  go_enter Tryd.func13, Tryd.ntmps13
  go_wp2
  go_ret
  exact ⟨rfl, rfl⟩

def alivePk : PacketD := { seq := 1, from_ := ⟨#[97]⟩, data := ⟨#[]⟩, timeout := 9 }
theorem alivePk_wf : alivePk.wf := ⟨⟨by decide, by decide⟩, by decide, by decide, ⟨by decide, by decide⟩⟩
theorem alivePk_ok : okPacket alivePk = true := by decide +kernel
theorem alivePk_dec : (decPacket (encPacket alivePk)).map PacketD.cells = some alivePk.cells := by kernel_rfl
theorem alivePk_len : (encPacket alivePk).length = 29 := by decide +kernel
theorem alivePk_7 : (encPacket alivePk)[7]? = some 6 := by decide +kernel

set_option maxHeartbeats 400000 in
theorem alive_any (w : World) : Calls Tryd.prog 12 #[] w fun e w' => e = .returned (.bool true) ∧ Below w.heap.size w w' := by
  go_enter Tryd.func12, Tryd.ntmps12
  go_wp2_with fail
  refine (EncodePacket_yes alivePk w alivePk_wf alivePk_ok).mono ?_
  rintro e w1 ⟨a, n, c, rfl, h1, h2⟩
  have H1 := Lib.hid h1; have H2 := Lib.hid h2; clear h1 h2
  go_wp2_with fail
  refine (DecodePacket_any _ _ w1 H1.out.rd (by rw [alivePk_len]; omega)).mono ?_
  intro e w2 hd
  obtain ⟨hb, rfl⟩ := hd.y alivePk_dec
  have Hb := Lib.hid hb; clear hb hd
  go_wp2_with (first | (refine wpList_alloc_as rfl 38 rfl ZPacket ZPacket_info ?_))
  intro w3 b3 g3 s3
  have B3 := Lib.hid b3; have G3 := Lib.hid g3; clear b3 g3 s3
  go_wp2_with (refine wpList_store_whole rfl 38 _ _ rfl w2.heap.size rfl alivePk.cells ZPacket 38 rfl B3.out rfl (by simp [PacketD.cells, Value.oneCell']) (sizePacket _ rfl) ?_)
  intro w4 g4 s4 b4
  have rd4 := H1.out.rd.below Hb.out
  obtain ⟨ao, cc, e1, hle, hcm, ⟨_, e2, _⟩ | ⟨g, o, rfl, hlt, hrow⟩⟩ := rd4
  · have := congrArg List.length e2; rw [alivePk_len] at this; cases this
  injection e1 with e1 e2 e3
  subst e1 e3
  rw [alivePk_len] at e2 hle
  subst e2
  have c7 : w4.cell? ⟨g, o + 7, none⟩ = some (.int .u8 6) := by
    have h7 : (Lib.byteCells (encPacket alivePk))[7]? = some (.int .u8 6) := by
      unfold Lib.byteCells; rw [List.getElem?_map, alivePk_7]; rfl
    have := ((hrow.grown G3.out (by simp)).grown g4 (by simp; omega)) 7 _ h7
    exact this
  have c3 : w4.cell? ⟨w2.heap.size, 3, none⟩ = some (.int .i64 9) := b4.row 3 _ rfl
  unfold maxLen at hcm
  have G4 := Lib.hid g4
  clear b4 g4 s4 hrow
  go_wp2
  go_ret
  refine ⟨rfl, ?_⟩
  have q2 := H2.out.trans (Hb.out.mono H2.out.size)
  have q3 : Below w.heap.size w w3 := q2.trans ⟨G3.out.os, G3.out.tape, G3.out.output, G3.out.size, fun k hk => G3.out.block k (by have := q2.size; omega) (by simp)⟩
  exact q3.trans ⟨G4.out.os, G4.out.tape, G4.out.output, G4.out.size, fun k hk => G4.out.block k (by have := q3.size; omega) (by have := q2.size; simp; omega)⟩

end Go.Proofs.YtaffpgafbjhahaaDoor
