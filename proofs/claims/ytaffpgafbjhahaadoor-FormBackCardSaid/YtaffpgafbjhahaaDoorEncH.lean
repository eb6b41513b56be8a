/- Walks: forms.putHeader. -/
import Derived.Test.YtaffpgafbjhahaaDoorEncC
namespace Go.Proofs.YtaffpgafbjhahaaDoor
open Go.RowKit
set_option maxRecDepth 100000

def HeaderD.hashes (d : HeaderD) : List (List UInt8) := [d.last, d.set, d.next, d.data, d.app]
theorem HeaderD.hashes_len (d : HeaderD) (h : d.wf) : ∀ x ∈ d.hashes, x.length = 32 := by
  intro x hx
  simp only [HeaderD.hashes, List.mem_cons, List.not_mem_nil, or_false] at hx
  rcases hx with rfl | rfl | rfl | rfl | rfl
  · exact h.last
  · exact h.set
  · exact h.next
  · exact h.data
  · exact h.app
theorem hash_info : (Tryd.prog.info? 24).map (fun i => (i.zero, i.size)) = some (some (.agg (Array.replicate 32 (.int .u8 0))), 32) := by kernel_rfl
theorem take_hash (hs : List (List UInt8)) (k : Nat) (h : k < hs.length) : (hs.take (k + 1)).flatten = (hs.take k).flatten ++ hs[k] := by
  rw [List.take_succ_eq_append_getElem h, List.flatten_append]; simp
theorem encHeader_eq (d : HeaderD) : encHeader d = be64 2 ++ textL d.chain ++ be64 d.height ++ be64 d.time ++ d.hashes.flatten := by simp [encHeader, HeaderD.hashes]

def hdrVs (d : HeaderD) : List Value := [hashV d.last, hashV d.set, hashV d.next, hashV d.data, hashV d.app]
theorem hdrVs_n (d : HeaderD) : (hdrVs d).length * 32 ≤ 16777216 := by simp [hdrVs]
theorem hdrVs_flat (d : HeaderD) : flatCells (hdrVs d) = d.hashes.flatMap Lib.byteCells := by simp [flatCells, hdrVs, hashV, HeaderD.hashes, Value.cells]
theorem hdrVs_size (d : HeaderD) (h5 : ∀ x ∈ d.hashes, x.length = 32) : ∀ v ∈ hdrVs d, v.cells.size = 32 := by
  intro v hv
  simp only [hdrVs, List.mem_cons, List.not_mem_nil, or_false] at hv
  simp only [HeaderD.hashes, List.mem_cons, List.not_mem_nil, or_false, forall_eq_or_imp, forall_eq] at h5
  rcases hv with rfl | rfl | rfl | rfl | rfl <;> simp [hashV, Value.cells, Lib.byteCells_length, h5]

set_option maxHeartbeats 1000000 in
theorem putHeader_yes {b L : Nat} {w1 w : World} {bs : List UInt8} (h : St b w1 bs L w) (hL : L ≤ 100000000) (d : HeaderD) (hc : d.wf) (hok : okHeader d = true) :
    Calls Tryd.prog 87 #[.pointer (some ⟨b, 0, none⟩), .agg d.cells.toArray] w fun e w' => e = .returned (.tuple #[]) ∧ St b w1 (bs ++ encHeader d) (L + 220) w' ∧ Below b w w' := by
  have hlen := d.cells_length hc
  obtain ⟨W, hW, hblk, hrow, hf, hb, hsz⟩ := box_as w d.cells 57
  have HW := Lib.hid hW; have B := Lib.hid (show Blk W w.heap.size d.cells 57 from hblk)
  have S := Lib.hid (h.over hb); have K := Lib.hid (hb.mono h.lt)
  have hlt := h.isW.lt
  have Hlen := Lib.hid hlen; have Hc := Lib.hid hc; have Hok := Lib.hid hok
  have Hs := Lib.hid (d.hashes_len hc)
  clear hW hblk hrow hf hb hsz h hlen hc hok
  go_enter Tryd.func87, Tryd.ntmps87
  go_upto_region 1 with (fail)
  rw [HW.out]
  clear HW
  go_wp2_with (refine wpList_load_part rfl 57 _ rfl w.heap.size 0 rfl d.cells _ B.out.row Tryd.underlying57 rfl (d.size Hc.out) ?_)
  refine (checkHeader_yes d _ Hc.out Hok.out).mono ?_
  rintro e w2 ⟨rfl, hb⟩
  replace K := Lib.hid (K.out.trans (hb.mono S.out.lt)); replace B := Lib.hid (B.out.below hb B.out.lt); replace S := Lib.hid (S.out.over hb)
  clear hb
  go_wp2_with fail
  refine (Number_st S.out (by omega) _).mono ?_
  rintro e w3 ⟨rfl, k1, k2⟩
  replace S := Lib.hid k1; replace K := Lib.hid (K.out.trans k2.1); replace B := Lib.hid (B.out.kept k2.2 (by decide) (by omega)); clear k1 k2
  have A := Lib.hid (HeaderD.At.of_row Hc.out B.out.row)
  have c0 := A.out.chain; rw [Nat.zero_add] at c0
  go_wp2_with fail
  refine (Text_st S.out (by omega) _ 16 (okHeader_len Hok.out) (by omega)).mono ?_
  rintro e w4 ⟨rfl, k1, k2⟩
  replace S := Lib.hid k1; replace K := Lib.hid (K.out.trans k2.1); replace B := Lib.hid (B.out.kept k2.2 (by decide) (by omega)); clear k1 k2 c0
  replace A := Lib.hid (HeaderD.At.of_row Hc.out B.out.row)
  have c0 := A.out.height; rw [Nat.zero_add] at c0
  go_wp2_with fail
  refine (Number_st S.out (by omega) _).mono ?_
  rintro e w5 ⟨rfl, k1, k2⟩
  replace S := Lib.hid k1; replace K := Lib.hid (K.out.trans k2.1); replace B := Lib.hid (B.out.kept k2.2 (by decide) (by omega)); clear k1 k2 c0
  replace A := Lib.hid (HeaderD.At.of_row Hc.out B.out.row)
  have c0 := A.out.time; rw [Nat.zero_add] at c0
  go_wp2_with fail
  refine (Number_st S.out (by omega) _).mono ?_
  rintro e w6 ⟨rfl, k1, k2⟩
  replace S := Lib.hid k1; replace K := Lib.hid (K.out.trans k2.1); replace B := Lib.hid (B.out.kept k2.2 (by decide) (by omega)); clear k1 k2 c0
  replace A := Lib.hid (HeaderD.At.of_row Hc.out B.out.row)
  go_wp2_with (first
    | (refine wpList_load_part rfl 24 _ rfl w.heap.size 3 rfl (Lib.byteCells d.last) _ (Nat.zero_add 3 ▸ A.out.last) Tryd.underlying24 rfl (hash_size _ Hc.out.last) ?_)
    | (refine wpList_load_part rfl 24 _ rfl w.heap.size 35 rfl (Lib.byteCells d.set) _ (Nat.zero_add 35 ▸ A.out.set) Tryd.underlying24 rfl (hash_size _ Hc.out.set) ?_)
    | (refine wpList_load_part rfl 24 _ rfl w.heap.size 67 rfl (Lib.byteCells d.next) _ (Nat.zero_add 67 ▸ A.out.next) Tryd.underlying24 rfl (hash_size _ Hc.out.next) ?_)
    | (refine wpList_load_part rfl 24 _ rfl w.heap.size 99 rfl (Lib.byteCells d.data) _ (Nat.zero_add 99 ▸ A.out.data) Tryd.underlying24 rfl (hash_size _ Hc.out.data) ?_)
    | (refine wpList_load_part rfl 24 _ rfl w.heap.size 131 rfl (Lib.byteCells d.app) _ (Nat.zero_add 131 ▸ A.out.app) Tryd.underlying24 rfl (hash_size _ Hc.out.app) ?_)
    | (refine wpList_buildSlice_all rfl 44 5 _ rfl (hdrVs d) (by kernel_rfl) rfl (d.hashes.flatMap Lib.byteCells) (hdrVs_flat d) 24 _ 32 Tryd.underlying44 hash_info (hdrVs_size d Hs.out) (hdrVs_n d) ?_))
  intro w7 b7 g7 s7
  replace K := Lib.hid (K.out.trans ((WK.refl b b w6).over g7 S.out.lt))
  have hm : b < w6.heap.size := S.out.isW.lt
  replace S := Lib.hid (S.out.grown g7)
  have N := Lib.hid b7
  clear b7 g7 s7 A B
  go_wp2_with fail
  go_loopw [34] (fun i wr => ∃ k : Nat, k ≤ 5 ∧ i = .int .i64 k ∧ St b w1 (bs ++ be64 2 ++ textL d.chain ++ be64 d.height ++ be64 d.time ++ (d.hashes.take k).flatten) (L + 8 + 2 + 16 + 8 + 8 + 32 * k) wr ∧ Below b w7 wr ∧ Blk wr w6.heap.size (d.hashes.flatMap Lib.byteCells) 24) (fun i _ => 5 - (intOf i).toNat)
  case atStart => exact ⟨0, Nat.zero_le _, rfl, by simpa using S.out, Below.refl _ _, N.out⟩
  case round =>
    obtain ⟨k, hk, rfl, hs, hb, hn⟩ := hrel
    have Hss := Lib.hid hs; have Hb := Lib.hid hb; have Hn := Lib.hid hn; clear hs hb hn
    by_cases hlt2 : k < 5
    · have hk5 : k < d.hashes.length := hlt2
      have R := Lib.hid (RowAt.elem (f := Lib.byteCells) (k := 32) Hn.out.row (fun x hx => by rw [Lib.byteCells_length]; exact Hs.out x hx) k hk5)
      have Ht := Lib.hid (take_hash d.hashes k hk5)
      obtain ⟨x, hx⟩ : ∃ x, x = d.hashes[k] := ⟨_, rfl⟩
      have Hx := Lib.hid (Hs.out x (by rw [hx]; exact List.getElem_mem _))
      rw [← hx, Nat.zero_add] at R
      rw [← hx] at Ht
      clear hx hk5
      go_wp2_with (first | (refine wpList_load_part rfl 24 _ rfl w6.heap.size (k * 32) rfl (Lib.byteCells x) _ R.out Tryd.underlying24 rfl (hash_size _ Hx.out) ?_) | (refine wpList_alloc_as rfl 24 rfl ZH ZH_info ?_))
      intro w8 b4 g4 s4
      have B4 := Lib.hid b4; have G4 := Lib.hid g4; clear b4 g4 s4
      go_wp2_with (refine wpList_store_whole rfl 24 _ _ rfl wr.heap.size rfl (Lib.byteCells x) ZH 24 rfl B4.out (by rw [Lib.byteCells_length, Hx.out]; rfl) (oneCell_bytes x) (hash_size _ Hx.out) ?_)
      intro w9 g5 s5 b5
      have Gn := Lib.hid (grown_new G4.out g5 (Nat.le_refl _))
      have S5 := Lib.hid (Hss.out.grown Gn.out)
      have B5 := Lib.hid b5; clear b5 g5 s5
      go_wp2_with (refine wpList_load_part rfl 24 _ rfl wr.heap.size 0 rfl (Lib.byteCells x) _ B5.out.row Tryd.underlying24 rfl (hash_size _ Hx.out) ?_)
      refine (Hash_st S5.out (by omega) _ Hx.out).mono ?_
      rintro e w10 ⟨rfl, k1, k2⟩
      have S6 := Lib.hid k1
      have K6 := Lib.hid ((WK.over (WK.refl b b wr) Gn.out Hss.out.lt).trans k2.1)
      have N6 := Lib.hid ((Hn.out.grown Gn.out (by simp)).kept k2.2 (by decide) (by omega))
      clear k1 k2
      go_wp2_with fail
      refine ⟨⟨k + 1, by omega, by go_num, S6.out.put ?_ (by omega), Hb.out.trans K6.out, N6.out⟩, by simp [intOf]; omega⟩
      rw [Ht.out]; simp only [List.append_assoc]
    · obtain rfl : k = 5 := by omega
      go_wp2_with fail
      go_end0
      refine ⟨rfl, Hss.out.put ?_ (by omega), K.out.trans Hb.out⟩
      rw [encHeader_eq, show d.hashes.take 5 = d.hashes from rfl]; simp only [List.append_assoc]

set_option maxHeartbeats 400000 in
theorem putHeader_no {b L : Nat} {w1 w : World} {bs : List UInt8} (h : St b w1 bs L w) (d : HeaderD) (hc : d.wf) (hok : okHeader d = false) :
    Calls Tryd.prog 87 #[.pointer (some ⟨b, 0, none⟩), .agg d.cells.toArray] w fun e w' => e = .panicked wrongP ∧ Below b w w' := by
  obtain ⟨W, hW, hblk, hrow, hf, hb, hsz⟩ := box_as w d.cells 57
  have HW := Lib.hid hW; have B := Lib.hid (show Blk W w.heap.size d.cells 57 from hblk)
  have K := Lib.hid (hb.mono h.lt); have Hs := Lib.hid hb.size
  have hlt := h.lt
  have Hc := Lib.hid hc; have Hok := Lib.hid hok
  clear hW hblk hrow hf hb hsz h hc hok
  go_enter Tryd.func87, Tryd.ntmps87
  go_upto_region 1 with (fail)
  rw [HW.out]
  clear HW
  go_wp2_with (refine wpList_load_part rfl 57 _ rfl w.heap.size 0 rfl d.cells _ B.out.row Tryd.underlying57 rfl (d.size Hc.out) ?_)
  refine (checkHeader_no d _ Hc.out Hok.out).mono ?_
  rintro e w2 ⟨rfl, hb⟩
  exact ⟨rfl, rfl, K.out.trans (hb.mono (by have := Hs.out; omega))⟩

end Go.Proofs.YtaffpgafbjhahaaDoor
