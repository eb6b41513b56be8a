/- Walks of the document's digest of parts; nuncioref04.times, Power. Walks: nuncioref04.number, challenge, Key, Sign, Verify. -/
import Derived.Test.YtlahdaanfhedoaaDoorRJoin
import Derived.Test.YtlahdaanfhedoaaDoorSch3
import Derived.Test.YtlahdaanfhedoaaDoorBkW
namespace Go.Proofs.YtlahdaanfhedoaaDoor
open Go.RowKit
set_option maxRecDepth 100000

set_option maxHeartbeats 1600000 in
theorem rjoin_ok (tag : UInt8) (ls : List (List UInt8)) (v : Value) (w : World) (hv : RdL w v ls) (hlen : ls.flatten.length ≤ 140737488355000) :
    Calls Tryd.prog 21 #[.int .u8 (tag.toNat : Int), v] w fun e w' => e = .returned (.agg (Lib.byteCells (blake (tag :: ls.flatten))).toArray) ∧ w.grownBy w' none := by
  obtain ⟨ao, cp, cs, rfl, hc1, hc2, hcl, hcs, hv⟩ := hv
  have hjm : ls.length ≤ 9223372036854775807 := Nat.le_trans hc1 hc2
  obtain ⟨L, hLL⟩ : ∃ L, tag :: ls.flatten = L := ⟨_, rfl⟩
  rw [hLL]
  have HLL := Lib.hid hLL
  have HV := Lib.hid hv; have HC := Lib.hid hcs; have HL := Lib.hid hlen
  clear hv hcs hlen hLL
  go_enter Tryd.func21, Tryd.ntmps21
  go_wp2_with (refine wpList_alloc_as rfl 33 rfl ZH ZH_info ?_)
  intro w1 k1 k2 k3
  obtain ⟨pb, hpb⟩ : ∃ n, w.heap.size = n := ⟨_, rfl⟩
  rw [hpb] at k1 k3 ⊢
  have ga := World.grownBy_alloc w1 (.cells #[.int .u8 (tag.toNat : Int)] 5) none
  have O2 := Lib.hid (k1.grown ga (by simp))
  have B2 := Lib.hid (show Below pb w (w1.alloc (.cells #[.int .u8 (tag.toNat : Int)] 5)) by rw [← hpb]; exact below_of_grown (Lib.grownBy_trans k2 ga))
  have own1 : OwnB w1.heap.size (.slice (some ⟨w1.heap.size, 0, none⟩) 1 1) [tag] (w1.alloc (.cells #[.int .u8 (tag.toNat : Int)] 5)) :=
    World.ownsRow_lit (base := w1.heap.size) (e := 5) (size := 1) w1 _ 1 (Nat.le_refl _) (by unfold maxLen; omega) rfl
  have Z2 := Lib.hid (show pb + 1 ≤ (w1.alloc (.cells #[.int .u8 (tag.toNat : Int)] 5)).heap.size by simp; omega)
  rw [k3] at own1
  have Ow := Lib.hid own1; have K3 := Lib.hid k3; have Hpb := Lib.hid hpb
  clear own1 k1 k2 k3 ga hpb
  go_wp2_with fail
  rw [K3.out]
  generalize (w1.alloc (.cells #[.int .u8 (tag.toNat : Int)] 5)) = w2 at O2 B2 Z2 Ow ⊢
  go_loopw [5, 6] (fun a i wr => ∃ j : Nat, j ≤ ls.length ∧ i = .int .i64 j ∧ OwnB (pb + 1) a (tag :: (ls.take j).flatten) wr ∧ Blk wr pb ZH 33 ∧ Below pb w wr ∧ pb + 1 ≤ wr.heap.size) (fun _ i _ => ls.length - (intOf i).toNat)
  case atStart => exact ⟨0, Nat.zero_le _, rfl, by rw [List.take_zero, List.flatten_nil]; exact Ow.out, O2.out, B2.out, Z2.out⟩
  case round =>
    obtain ⟨j, hj, rfl, ho, hh, hg, hz⟩ := hrel
    have hcat : ∀ k, (ls.take k).flatten.length ≤ ls.flatten.length := fun k => by
      have := congrArg (fun x => x.flatten.length) (List.take_append_drop k ls)
      simp only [List.flatten_append, List.length_append] at this
      omega
    have Ho := Lib.hid ho; have Hh := Lib.hid hh; have Hg := Lib.hid hg; have Hz := Lib.hid hz
    by_cases hjl : j < ls.length
    · obtain ⟨g, o, rfl, hgl, hrow⟩ : ∃ g o, ao = some ⟨g, o, none⟩ ∧ g < w.heap.size ∧ RowAt w g o cs := by
        rcases HV.out with ⟨_, h2⟩ | h
        · rw [h2] at hjl; simp at hjl
        · exact h
      obtain ⟨l, hl⟩ : ∃ l, ls[j] = l := ⟨_, rfl⟩
      obtain ⟨u, hu, hru⟩ := HC.out j l (by rw [← hl]; exact List.getElem?_eq_getElem hjl)
      have hcell : wr.cell? ⟨g, o + j, none⟩ = some u := (below_grown (Hpb.out ▸ hg)).cell (hrow j u hu) (by simp)
      have hst : tag :: (ls.take (j + 1)).flatten = (tag :: (ls.take j).flatten) ++ l := by rw [List.take_succ_eq_append_getElem hjl, hl]; simp
      have hc1' := hcat (j + 1)
      have hln : (tag :: (ls.take j).flatten).length + l.length = 1 + (ls.take (j + 1)).flatten.length := by
        have := congrArg List.length hst
        rw [List.length_append, List.length_cons] at this
        omega
      have hru2 := hru.grown (below_grown (Hpb.out ▸ hg))
      obtain ⟨au, cu, hue, _⟩ := id hru
      have Hst := Lib.hid hst; have Hru := Lib.hid hru2; have Hln := Lib.hid (show (tag :: (ls.take j).flatten).length + l.length ≤ 140737488355328 by have := HL.out; omega)
      subst hue
      clear ho hh hg hz hrow hl hu hru hst hc1' hln hru2 hcat
      go_wp2_with (first | (refine wpList_app rfl _ _ rfl rfl Ho.out rfl Hru.out Hln.out Hz.out ?_; intro a' n' c' w' ho' hb'))
      rw [← Hst.out] at ho'
      exact ⟨⟨j + 1, by omega, by go_num, ho', Hh.out.below hb' (by omega), Hg.out.trans (hb'.mono (by omega)), Nat.le_trans Hz.out hb'.size⟩, by simp [intOf]; omega⟩
    · obtain rfl : j = ls.length := by omega
      rw [List.take_length] at ho
      have hLl : L.length = ls.flatten.length + 1 := by rw [← HLL.out]; rfl
      rw [HLL.out] at ho
      have HLl := Lib.hid hLl; have HLe := Lib.hid (show 0 < L.length by omega)
      clear hLl
      obtain ⟨ao2, c, rfl, h1, h2, h3⟩ := ho.rd
      obtain ⟨g, o, rfl, hgl, hr⟩ : ∃ g o, ao2 = some ⟨g, o, none⟩ ∧ g < wr.heap.size ∧ RowAt wr g o (Lib.byteCells L) := by
        rcases h3 with ⟨_, h, _⟩ | h
        · have := HLe.out; rw [h] at this; simp at this
        · exact h
      have C := Lib.hid (rsum_ok L g o c wr HLe.out h1 h2 hr hgl (by have := HL.out; have := HLl.out; omega))
      clear ho hh hg hz h1 h2 h3 hr hgl Ho Ow O2 B2 Z2 hcat
      go_wp2_with fail
      refine C.out.mono ?_
      rintro e w5 ⟨rfl, g5⟩
      have O5 := Lib.hid (Hh.out.grown g5 (by simp)); have B5 := Lib.hid (Hg.out.trans ((below_of_grown g5).mono (by have := Hz.out; omega)))
      have hbl := blake_len L
      obtain ⟨X, hX⟩ : ∃ X, blake L = X := ⟨_, rfl⟩
      rw [hX] at hbl ⊢
      have hxl : (Lib.byteCells X).length = 32 := by rw [Lib.byteCells_length]; exact hbl
      have HX := Lib.hid hX
      clear g5 hX C Hh Hg Hz
      go_wp2_with (first | (refine wpList_store_whole rfl 33 _ _ rfl pb rfl (Lib.byteCells X) ZH 33 rfl O5.out (by rw [hxl]; rfl) (Lib.byteCells_one _) (sizeH _ hxl) ?_))
      intro w9 g9 s9 b9
      have B9 := Lib.hid b9; have G9 := Lib.hid (below_row B5.out g9 (by omega) O5.out.lt)
      clear b9 g9 s9
      go_wp2
      refine bodyPost_ret (results_cell_one rfl _ _ ⟨pb, 0, none⟩ _ rfl (run_loadVar_part _ _ _ 33 (Lib.byteCells X) _ B9.out.row Tryd.underlying33 rfl (sizeH _ hxl))) rfl ?_
      rw [HX.out]
      exact ⟨rfl, below_grown (Hpb.out ▸ G9.out)⟩

theorem pw_u64' (b e : Nat) : pw b e < 18446744073709551616 := by have := pw_lt b e; unfold pP at this; omega
theorem shr_nat (b i : Nat) : (b : Int) / 2 ^ i = ((b / 2 ^ i : Nat) : Int) := by
  rw [Int.natCast_ediv]; simp

theorem be64_nat (n : Nat) (h : n < 18446744073709551616) : be64 (n : Int) = be 8 n := by
  unfold be64
  rw [show ((n : Int) % 18446744073709551616).toNat = n from by omega]
theorem MWord_nat (n : Nat) (w : World) (h : n < 18446744073709551616) :
    Calls Tryd.prog 56 #[.int .u64 (n : Int)] w fun e w' => ∃ a k c, e = .returned (.slice a k c) ∧ RdB w' (.slice a k c) (be 8 n) ∧ w.grownBy w' none := by
  refine (MWord (n : Int) w (by omega) (by omega)).mono ?_
  rintro e w' ⟨a, k, c, rfl, h1, h2⟩
  rw [be64_nat n h] at h1
  exact ⟨a, k, c, rfl, h1.rd, below_grown h2⟩

def sgL (x : Nat) (m : List UInt8) : Nat × Nat := if keyOk x then (sgR x m, sgS x m) else (0, 0)
end Go.Proofs.YtlahdaanfhedoaaDoor
