/- Walks of the document's digest of parts; nuncioref04.times, Power. Walks: nuncioref04.number, challenge, Key, Sign, Verify. -/
import Derived.Test.YtcbkehnlgpcelaaGreatDoorRJoin
import Derived.Test.YtcbkehnlgpcelaaGreatDoorSch3
import Derived.Test.YtcbkehnlgpcelaaGreatDoorBkW
namespace Go.Proofs.YtcbkehnlgpcelaaGreatDoor
open Go.RowKit
set_option maxRecDepth 100000

set_option maxHeartbeats 1600000 in
theorem rjoin_ok (tag : UInt8) (ls : List (List UInt8)) (v : Value) (w : World) (hv : RdL w v ls) (hlen : ls.flatten.length ≤ 140737488355000) :
    Calls Tryz.prog 53 #[.int .u8 (tag.toNat : Int), v] w fun e w' => e = .returned (.agg (Lib.byteCells (blake (tag :: ls.flatten))).toArray) ∧ w.grownBy w' none := by
  obtain ⟨ao, cp, cs, rfl, hc1, hc2, hcl, hcs, hv⟩ := hv
  have hjm : ls.length ≤ 9223372036854775807 := Nat.le_trans hc1 hc2
  obtain ⟨L, hLL⟩ : ∃ L, tag :: ls.flatten = L := ⟨_, rfl⟩
  rw [hLL]
  have HLL := Lib.hid hLL
  have HV := Lib.hid hv; have HC := Lib.hid hcs; have HL := Lib.hid hlen
  clear hv hcs hlen hLL
  go_enter Tryz.func53, Tryz.ntmps53
  go_wp2_with (refine wpList_alloc_as rfl 26 rfl ZH ZH_info ?_)
  intro w1 k1 k2 k3
  obtain ⟨pb, hpb⟩ : ∃ n, w.heap.size = n := ⟨_, rfl⟩
  rw [hpb] at k1 k3 ⊢
  have ga := World.grownBy_alloc w1 (.cells #[.int .u8 (tag.toNat : Int)] 5) none
  have O2 := Lib.hid (k1.grown ga (by simp))
  have B2 := Lib.hid (show Below pb w (w1.alloc (.cells #[.int .u8 (tag.toNat : Int)] 5)) by rw [← hpb]; exact below_of_grown (Lib.grownBy_trans k2 ga))
  have own1 : OwnB w1.heap.size (.slice (some ⟨w1.heap.size, 0, none⟩) 1 1) [tag] (w1.alloc (.cells #[.int .u8 (tag.toNat : Int)] 5)) :=
    World.ownsRow_lit (base := w1.heap.size) (e := 5) (size := 1) w1 _ 1 (Nat.le_refl _) (by unfold maxLen; omega) rfl
  have Z2 := Lib.hid (show pb + 1 ≤ (w1.alloc (.cells #[.int .u8 (tag.toNat : Int)] 5)).heap.size by simp; omega)
  rw [k3] at own1
  have Ow := Lib.hid own1; have K3 := Lib.hid k3; have Hpb := Lib.hid hpb
  clear own1 k1 k2 k3 ga hpb
  go_wp2_with fail
  rw [K3.out]
  generalize (w1.alloc (.cells #[.int .u8 (tag.toNat : Int)] 5)) = w2 at O2 B2 Z2 Ow ⊢
  go_loopw [5, 6] (fun a i wr => ∃ j : Nat, j ≤ ls.length ∧ i = .int .i64 j ∧ OwnB (pb + 1) a (tag :: (ls.take j).flatten) wr ∧ Blk wr pb ZH 26 ∧ Below pb w wr ∧ pb + 1 ≤ wr.heap.size) (fun _ i _ => ls.length - (intOf i).toNat)
  case atStart => exact ⟨0, Nat.zero_le _, rfl, by rw [List.take_zero, List.flatten_nil]; exact Ow.out, O2.out, B2.out, Z2.out⟩
  case round =>
    obtain ⟨j, hj, rfl, ho, hh, hg, hz⟩ := hrel
    have hcat : ∀ k, (ls.take k).flatten.length ≤ ls.flatten.length := fun k => by
      have := congrArg (fun x => x.flatten.length) (List.take_append_drop k ls)
      simp only [List.flatten_append, List.length_append] at this
      omega
    have Ho := Lib.hid ho; have Hh := Lib.hid hh; have Hg := Lib.hid hg; have Hz := Lib.hid hz
    by_cases hjl : j < ls.length
    · obtain ⟨g, o, rfl, hgl, hrow⟩ : ∃ g o, ao = some ⟨g, o, none⟩ ∧ g < w.heap.size ∧ RowAt w g o cs := by
        rcases HV.out with ⟨_, h2⟩ | h
        · rw [h2] at hjl; simp at hjl
        · exact h
      obtain ⟨l, hl⟩ : ∃ l, ls[j] = l := ⟨_, rfl⟩
      obtain ⟨u, hu, hru⟩ := HC.out j l (by rw [← hl]; exact List.getElem?_eq_getElem hjl)
      have hcell : wr.cell? ⟨g, o + j, none⟩ = some u := (below_grown (Hpb.out ▸ hg)).cell (hrow j u hu) (by simp)
      have hst : tag :: (ls.take (j + 1)).flatten = (tag :: (ls.take j).flatten) ++ l := by rw [List.take_succ_eq_append_getElem hjl, hl]; simp
      have hc1' := hcat (j + 1)
      have hln : (tag :: (ls.take j).flatten).length + l.length = 1 + (ls.take (j + 1)).flatten.length := by
        have := congrArg List.length hst
        rw [List.length_append, List.length_cons] at this
        omega
      have hru2 := hru.grown (below_grown (Hpb.out ▸ hg))
      obtain ⟨au, cu, hue, _⟩ := id hru
      have Hst := Lib.hid hst; have Hru := Lib.hid hru2; have Hln := Lib.hid (show (tag :: (ls.take j).flatten).length + l.length ≤ 140737488355328 by have := HL.out; omega)
      subst hue
      clear ho hh hg hz hrow hl hu hru hst hc1' hln hru2 hcat
      go_wp2_with (first | (refine wpList_app rfl _ _ rfl rfl Ho.out rfl Hru.out Hln.out Hz.out ?_; intro a' n' c' w' ho' hb'))
      rw [← Hst.out] at ho'
      exact ⟨⟨j + 1, by omega, by go_num, ho', Hh.out.below hb' (by omega), Hg.out.trans (hb'.mono (by omega)), Nat.le_trans Hz.out hb'.size⟩, by simp [intOf]; omega⟩
    · obtain rfl : j = ls.length := by omega
      rw [List.take_length] at ho
      have hLl : L.length = ls.flatten.length + 1 := by rw [← HLL.out]; rfl
      rw [HLL.out] at ho
      have HLl := Lib.hid hLl; have HLe := Lib.hid (show 0 < L.length by omega)
      clear hLl
      obtain ⟨ao2, c, rfl, h1, h2, h3⟩ := ho.rd
      obtain ⟨g, o, rfl, hgl, hr⟩ : ∃ g o, ao2 = some ⟨g, o, none⟩ ∧ g < wr.heap.size ∧ RowAt wr g o (Lib.byteCells L) := by
        rcases h3 with ⟨_, h, _⟩ | h
        · have := HLe.out; rw [h] at this; simp at this
        · exact h
      have C := Lib.hid (rsum_ok L g o c wr HLe.out h1 h2 hr hgl (by have := HL.out; have := HLl.out; omega))
      clear ho hh hg hz h1 h2 h3 hr hgl Ho Ow O2 B2 Z2 hcat
      go_wp2_with fail
      refine C.out.mono ?_
      rintro e w5 ⟨rfl, g5⟩
      have O5 := Lib.hid (Hh.out.grown g5 (by simp)); have B5 := Lib.hid (Hg.out.trans ((below_of_grown g5).mono (by have := Hz.out; omega)))
      have hbl := blake_len L
      obtain ⟨X, hX⟩ : ∃ X, blake L = X := ⟨_, rfl⟩
      rw [hX] at hbl ⊢
      have hxl : (Lib.byteCells X).length = 32 := by rw [Lib.byteCells_length]; exact hbl
      have HX := Lib.hid hX
      clear g5 hX C Hh Hg Hz
      go_wp2_with (first | (refine wpList_store_whole rfl 26 _ _ rfl pb rfl (Lib.byteCells X) ZH 26 rfl O5.out (by rw [hxl]; rfl) (Lib.byteCells_one _) (sizeH _ hxl) ?_))
      intro w9 g9 s9 b9
      have B9 := Lib.hid b9; have G9 := Lib.hid (below_row B5.out g9 (by omega) O5.out.lt)
      clear b9 g9 s9
      go_wp2
      refine bodyPost_ret (results_cell_one rfl _ _ ⟨pb, 0, none⟩ _ rfl (run_loadVar_part _ _ _ 26 (Lib.byteCells X) _ B9.out.row Tryz.underlying26 rfl (sizeH _ hxl))) rfl ?_
      rw [HX.out]
      exact ⟨rfl, below_grown (Hpb.out ▸ G9.out)⟩

theorem pw_u64' (b e : Nat) : pw b e < 18446744073709551616 := by have := pw_lt b e; unfold pP at this; omega
theorem shr_nat (b i : Nat) : (b : Int) / 2 ^ i = ((b / 2 ^ i : Nat) : Int) := by
  rw [Int.natCast_ediv]; simp

set_option maxHeartbeats 1000000 in
theorem rtimes_p (a b : Nat) (w : World) (_ha : a < 18446744073709551616) (_hb : b < 18446744073709551616) :
    Calls Tryz.prog 82 #[.int .u64 (a : Int), .int .u64 (b : Int), .int .u64 2305843009213693951] w fun e w' => e = .returned (.int .u64 ((a * b % 2305843009213693951 : Nat) : Int)) ∧ w = w' := by
  obtain ⟨x, hx⟩ : ∃ x, a % 2305843009213693951 = x := ⟨_, rfl⟩
  obtain ⟨y, hy⟩ : ∃ y, b % 2305843009213693951 = y := ⟨_, rfl⟩
  have k1 : (a : Int) % 2305843009213693951 = (x : Int) := by omega
  have k2 : (b : Int) % 2305843009213693951 = (y : Int) := by omega
  have h3 : x * y % 2305843009213693951 = a * b % 2305843009213693951 := by rw [← hx, ← hy, ← Nat.mul_mod]
  obtain ⟨R0, hR0⟩ : ∃ z, a * b % 2305843009213693951 = z := ⟨_, rfl⟩
  rw [hR0] at h3 ⊢
  have H3 := Lib.hid h3; have Xl := Lib.hid (show x < 2305843009213693951 by omega); have Yl := Lib.hid (show y < 2305843009213693951 by omega)
  have K1 := Lib.hid k1; have K2 := Lib.hid k2
  clear hx hy _ha _hb h3 hR0 k1 k2
  go_enter Tryz.func82, Tryz.ntmps82
  go_wp2_with fail
  rw [K1.out, K2.out]
  go_loop [7, 8] (fun nv i => ∃ j n : Nat, j ≤ 62 ∧ (∃ kk : Int, kk = (j : Int) - 1 ∧ i = .int .i64 kk) ∧ nv = .int .u64 (n : Int) ∧ n = x * (y / 2 ^ j) % 2305843009213693951) (fun _ i => (intOf i + 1).toNat)
  case atStart => exact ⟨62, 0, Nat.le_refl _, ⟨_, rfl, rfl⟩, rfl, by rw [Nat.div_eq_of_lt (by have := Yl.out; omega)]; simp⟩
  case round =>
    obtain ⟨j, n, hj, ⟨kk, hkk, rfl⟩, rfl, hn⟩ := hrel
    rcases Nat.eq_zero_or_pos j with rfl | h0
    · obtain rfl : kk = -1 := by omega
      have HN := Lib.hid (show n = R0 by rw [hn, Nat.pow_zero, Nat.div_one, H3.out])
      clear hkk hn hj
      go_wp2_with fail
      go_ret
      rw [← HN.out]
      exact ⟨rfl, rfl⟩
    · obtain ⟨i, rfl⟩ : ∃ i, j = i + 1 := ⟨j - 1, by omega⟩
      obtain rfl : kk = (i : Int) := by omega
      have hnl : n < 2305843009213693951 := by rw [hn]; exact Nat.mod_lt _ (by omega)
      have hs := mulm_bit x y 2305843009213693951 i
      rw [← hn] at hs
      have q1 : decide ((0 : Int) ≤ (i : Int)) = true := by simp
      obtain ⟨n2, hn2⟩ : ∃ z, 2 * n = z := ⟨_, rfl⟩
      obtain ⟨n3, hn3⟩ : ∃ z, n2 % 2305843009213693951 = z := ⟨_, rfl⟩
      have e1 : IntKind.u64.wrap (2 * (n : Int)) = (n2 : Int) := by rw [show (2 * (n : Int)) = (n2 : Int) by omega]; exact u64_in _ (Int.natCast_nonneg _) (by omega)
      have e2 : (n2 : Int) % 2305843009213693951 = (n3 : Int) := by omega
      rw [hn2, hn3] at hs
      obtain ⟨z, hz⟩ : ∃ z, y / 2 ^ i = z := ⟨_, rfl⟩
      have e3 : (y : Int) / 2 ^ i = (z : Int) := by rw [shr_nat, hz]
      rw [hz] at hs
      have Hs := Lib.hid hs; have Hz := Lib.hid hz; have J := Lib.hid hj
      rcases Nat.mod_two_eq_zero_or_one z with h2 | h2
      · have e4 : ((z : Int) % 2 == 1) = false := by simp; omega
        have R := Lib.hid (show n3 = x * (y / 2 ^ i) % 2305843009213693951 by rw [hz, hs, if_neg (by omega)])
        clear hs hz hn hnl hn2 hn3 h2 hkk
        go_wp2_with fail
        refine ⟨⟨i, n3, by have := J.out; omega, ⟨_, rfl, by go_num⟩, by rw [e2], R.out⟩, by simp [intOf]⟩
      · have e4 : ((z : Int) % 2 == 1) = true := by simp; omega
        have hn3l : n3 < 2305843009213693951 := by rw [← hn3]; exact Nat.mod_lt _ (by omega)
        obtain ⟨n4, hn4⟩ : ∃ z, n3 + x = z := ⟨_, rfl⟩
        obtain ⟨n5, hn5⟩ : ∃ z, n4 % 2305843009213693951 = z := ⟨_, rfl⟩
        have e5 : IntKind.u64.wrap ((n3 : Int) + (x : Int)) = (n4 : Int) := by rw [show ((n3 : Int) + (x : Int)) = (n4 : Int) by omega]; exact u64_in _ (Int.natCast_nonneg _) (by have := Xl.out; omega)
        have e6 : (n4 : Int) % 2305843009213693951 = (n5 : Int) := by omega
        have R := Lib.hid (show n5 = x * (y / 2 ^ i) % 2305843009213693951 by rw [hz, hs, if_pos h2, hn4, hn5])
        clear hs hz hn hnl hn2 hn3 h2 hn3l hn4 hn5 hkk
        go_wp2_with fail
        refine ⟨⟨i, n5, by have := J.out; omega, ⟨_, rfl, by go_num⟩, by rw [e6], R.out⟩, by simp [intOf]⟩

set_option maxHeartbeats 1000000 in
theorem rtimes_q (a b : Nat) (w : World) (_ha : a < 18446744073709551616) (_hb : b < 18446744073709551616) :
    Calls Tryz.prog 82 #[.int .u64 (a : Int), .int .u64 (b : Int), .int .u64 2305843009213693950] w fun e w' => e = .returned (.int .u64 ((a * b % 2305843009213693950 : Nat) : Int)) ∧ w = w' := by
  obtain ⟨x, hx⟩ : ∃ x, a % 2305843009213693950 = x := ⟨_, rfl⟩
  obtain ⟨y, hy⟩ : ∃ y, b % 2305843009213693950 = y := ⟨_, rfl⟩
  have k1 : (a : Int) % 2305843009213693950 = (x : Int) := by omega
  have k2 : (b : Int) % 2305843009213693950 = (y : Int) := by omega
  have h3 : x * y % 2305843009213693950 = a * b % 2305843009213693950 := by rw [← hx, ← hy, ← Nat.mul_mod]
  obtain ⟨R0, hR0⟩ : ∃ z, a * b % 2305843009213693950 = z := ⟨_, rfl⟩
  rw [hR0] at h3 ⊢
  have H3 := Lib.hid h3; have Xl := Lib.hid (show x < 2305843009213693950 by omega); have Yl := Lib.hid (show y < 2305843009213693950 by omega)
  have K1 := Lib.hid k1; have K2 := Lib.hid k2
  clear hx hy _ha _hb h3 hR0 k1 k2
  go_enter Tryz.func82, Tryz.ntmps82
  go_wp2_with fail
  rw [K1.out, K2.out]
  go_loop [7, 8] (fun nv i => ∃ j n : Nat, j ≤ 62 ∧ (∃ kk : Int, kk = (j : Int) - 1 ∧ i = .int .i64 kk) ∧ nv = .int .u64 (n : Int) ∧ n = x * (y / 2 ^ j) % 2305843009213693950) (fun _ i => (intOf i + 1).toNat)
  case atStart => exact ⟨62, 0, Nat.le_refl _, ⟨_, rfl, rfl⟩, rfl, by rw [Nat.div_eq_of_lt (by have := Yl.out; omega)]; simp⟩
  case round =>
    obtain ⟨j, n, hj, ⟨kk, hkk, rfl⟩, rfl, hn⟩ := hrel
    rcases Nat.eq_zero_or_pos j with rfl | h0
    · obtain rfl : kk = -1 := by omega
      have HN := Lib.hid (show n = R0 by rw [hn, Nat.pow_zero, Nat.div_one, H3.out])
      clear hkk hn hj
      go_wp2_with fail
      go_ret
      rw [← HN.out]
      exact ⟨rfl, rfl⟩
    · obtain ⟨i, rfl⟩ : ∃ i, j = i + 1 := ⟨j - 1, by omega⟩
      obtain rfl : kk = (i : Int) := by omega
      have hnl : n < 2305843009213693950 := by rw [hn]; exact Nat.mod_lt _ (by omega)
      have hs := mulm_bit x y 2305843009213693950 i
      rw [← hn] at hs
      have q1 : decide ((0 : Int) ≤ (i : Int)) = true := by simp
      obtain ⟨n2, hn2⟩ : ∃ z, 2 * n = z := ⟨_, rfl⟩
      obtain ⟨n3, hn3⟩ : ∃ z, n2 % 2305843009213693950 = z := ⟨_, rfl⟩
      have e1 : IntKind.u64.wrap (2 * (n : Int)) = (n2 : Int) := by rw [show (2 * (n : Int)) = (n2 : Int) by omega]; exact u64_in _ (Int.natCast_nonneg _) (by omega)
      have e2 : (n2 : Int) % 2305843009213693950 = (n3 : Int) := by omega
      rw [hn2, hn3] at hs
      obtain ⟨z, hz⟩ : ∃ z, y / 2 ^ i = z := ⟨_, rfl⟩
      have e3 : (y : Int) / 2 ^ i = (z : Int) := by rw [shr_nat, hz]
      rw [hz] at hs
      have Hs := Lib.hid hs; have Hz := Lib.hid hz; have J := Lib.hid hj
      rcases Nat.mod_two_eq_zero_or_one z with h2 | h2
      · have e4 : ((z : Int) % 2 == 1) = false := by simp; omega
        have R := Lib.hid (show n3 = x * (y / 2 ^ i) % 2305843009213693950 by rw [hz, hs, if_neg (by omega)])
        clear hs hz hn hnl hn2 hn3 h2 hkk
        go_wp2_with fail
        refine ⟨⟨i, n3, by have := J.out; omega, ⟨_, rfl, by go_num⟩, by rw [e2], R.out⟩, by simp [intOf]⟩
      · have e4 : ((z : Int) % 2 == 1) = true := by simp; omega
        have hn3l : n3 < 2305843009213693950 := by rw [← hn3]; exact Nat.mod_lt _ (by omega)
        obtain ⟨n4, hn4⟩ : ∃ z, n3 + x = z := ⟨_, rfl⟩
        obtain ⟨n5, hn5⟩ : ∃ z, n4 % 2305843009213693950 = z := ⟨_, rfl⟩
        have e5 : IntKind.u64.wrap ((n3 : Int) + (x : Int)) = (n4 : Int) := by rw [show ((n3 : Int) + (x : Int)) = (n4 : Int) by omega]; exact u64_in _ (Int.natCast_nonneg _) (by have := Xl.out; omega)
        have e6 : (n4 : Int) % 2305843009213693950 = (n5 : Int) := by omega
        have R := Lib.hid (show n5 = x * (y / 2 ^ i) % 2305843009213693950 by rw [hz, hs, if_pos h2, hn4, hn5])
        clear hs hz hn hnl hn2 hn3 h2 hn3l hn4 hn5 hkk
        go_wp2_with fail
        refine ⟨⟨i, n5, by have := J.out; omega, ⟨_, rfl, by go_num⟩, by rw [e6], R.out⟩, by simp [intOf]⟩

set_option maxHeartbeats 1000000 in
theorem RPower_ok (b e : Nat) (w : World) (hb : b < 18446744073709551616) (he : e < 18446744073709551616) :
    Calls Tryz.prog 57 #[.int .u64 (b : Int), .int .u64 (e : Int)] w fun r w' => r = .returned (.int .u64 ((pw b e : Nat) : Int)) ∧ w = w' := by
  obtain ⟨R0, hR0⟩ : ∃ z, pw b e = z := ⟨_, rfl⟩
  rw [hR0]
  have H0 := Lib.hid hR0; have HB := Lib.hid hb; have HE := Lib.hid he
  clear hR0 hb he
  go_enter Tryz.func57, Tryz.ntmps57
  go_wp2_with fail
  go_loop [5, 6] (fun nv i => ∃ j : Nat, j ≤ 64 ∧ (∃ kk : Int, kk = (j : Int) - 1 ∧ i = .int .i64 kk) ∧ nv = .int .u64 ((pw b (e / 2 ^ j) : Nat) : Int)) (fun _ i => (intOf i + 1).toNat)
  case atStart => exact ⟨64, Nat.le_refl _, ⟨_, rfl, rfl⟩, by rw [pw_big b e HE.out]; rfl⟩
  case round =>
    obtain ⟨j, hj, ⟨kk, hkk, rfl⟩, rfl⟩ := hrel
    rcases Nat.eq_zero_or_pos j with rfl | h0
    · obtain rfl : kk = -1 := by omega
      have HN := Lib.hid (show pw b (e / 2 ^ 0) = R0 by rw [Nat.pow_zero, Nat.div_one, H0.out])
      obtain ⟨n, hn⟩ : ∃ n, pw b (e / 2 ^ 0) = n := ⟨_, rfl⟩
      rw [hn] at HN ⊢
      clear hkk hn hj
      go_wp2_with fail
      go_ret
      rw [← HN.out]
      exact ⟨rfl, rfl⟩
    · obtain ⟨i, rfl⟩ : ∃ i, j = i + 1 := ⟨j - 1, by omega⟩
      obtain rfl : kk = (i : Int) := by omega
      have hs := pw_bit b e i
      obtain ⟨n, hn⟩ : ∃ n, pw b (e / 2 ^ (i + 1)) = n := ⟨_, rfl⟩
      obtain ⟨n1, hn1⟩ : ∃ n, pw b (e / 2 ^ i) = n := ⟨_, rfl⟩
      have hnl : n < 18446744073709551616 := by rw [← hn]; exact pw_u64' _ _
      rw [hn, hn1] at hs
      rw [hn]
      have q1 : decide ((0 : Int) ≤ (i : Int)) = true := by simp
      have C1 := rtimes_p n n
      obtain ⟨n2, hn2⟩ : ∃ z, n * n % 2305843009213693951 = z := ⟨_, rfl⟩
      have C2 := rtimes_p n2 b
      have hn2l : n2 < 18446744073709551616 := by rw [← hn2]; have := Nat.mod_lt (n * n) (show 0 < 2305843009213693951 by omega); omega
      rw [hn2] at C1
      have hs2 : n1 = if e / 2 ^ i % 2 = 1 then n2 * b % 2305843009213693951 else n2 := by
        rw [hs, show pP = 2305843009213693951 from rfl, hn2]
        split
        · rw [Nat.mul_mod n2 (b % 2305843009213693951), Nat.mod_mod, ← Nat.mul_mod]
        · rfl
      obtain ⟨z, hz⟩ : ∃ z, e / 2 ^ i = z := ⟨_, rfl⟩
      have e3 : (e : Int) / 2 ^ i = (z : Int) := by rw [shr_nat, hz]
      rw [hz] at hs2
      have K1 := Lib.hid (fun w => C1 w hnl hnl); have K2 := Lib.hid (fun w => C2 w hn2l HB.out); have J := Lib.hid hj
      have Hn1 := Lib.hid hn1
      rcases Nat.mod_two_eq_zero_or_one z with h2 | h2
      · have e4 : ((z : Int) % 2 == 1) = false := by simp; omega
        have R := Lib.hid (show pw b (e / 2 ^ i) = n2 by rw [hn1, hs2, if_neg (by omega)])
        clear hs hs2 hz hn hn1 hnl hn2 hn2l h2 hkk C1 C2
        go_wp2_with (first | (go_at_call 82; (with_reducible refine (K1.out _).mono ?_); rintro ee w' ⟨rfl, rfl⟩))
        refine ⟨⟨i, by have := J.out; omega, ⟨_, rfl, by go_num⟩, by rw [R.out]⟩, by simp [intOf]⟩
      · have e4 : ((z : Int) % 2 == 1) = true := by simp; omega
        obtain ⟨n3, hn3⟩ : ∃ z, n2 * b % 2305843009213693951 = z := ⟨_, rfl⟩
        rw [hn3] at K2
        have R := Lib.hid (show pw b (e / 2 ^ i) = n3 by rw [hn1, hs2, if_pos h2, hn3])
        clear hs hs2 hz hn hn1 hnl hn2 hn2l h2 hkk C1 C2 hn3
        go_wp2_with (first | (go_at_call 82; first | ((with_reducible refine (K1.out _).mono ?_); rintro ee w' ⟨rfl, rfl⟩) | ((with_reducible refine (K2.out _).mono ?_); rintro ee w' ⟨rfl, rfl⟩)))
        refine ⟨⟨i, by have := J.out; omega, ⟨_, rfl, by go_num⟩, by rw [R.out]⟩, by simp [intOf]⟩

theorem be64_nat (n : Nat) (h : n < 18446744073709551616) : be64 (n : Int) = be 8 n := by
  unfold be64
  rw [show ((n : Int) % 18446744073709551616).toNat = n from by omega]
theorem MWord_nat (n : Nat) (w : World) (h : n < 18446744073709551616) :
    Calls Tryz.prog 113 #[.int .u64 (n : Int)] w fun e w' => ∃ a k c, e = .returned (.slice a k c) ∧ RdB w' (.slice a k c) (be 8 n) ∧ w.grownBy w' none := by
  refine (MWord (n : Int) w (by omega) (by omega)).mono ?_
  rintro e w' ⟨a, k, c, rfl, h1, h2⟩
  rw [be64_nat n h] at h1
  exact ⟨a, k, c, rfl, h1.rd, below_grown h2⟩

set_option maxHeartbeats 1000000 in
theorem rnumber_ok (h : List UInt8) (w : World) (hl : h.length = 32) :
    Calls Tryz.prog 112 #[.agg (Lib.byteCells h).toArray] w fun e w' => e = .returned (.int .u64 (numL h : Int)) ∧ w.grownBy w' none := by
  have Hl := Lib.hid hl
  clear hl
  go_enter Tryz.func112, Tryz.ntmps112
  go_wp2_with (refine wpList_box_as rfl 26 _ rfl (Lib.byteCells h) rfl ?_)
  intro w1 b1 g1 s1
  have B1 := Lib.hid b1; have G1 := Lib.hid g1
  obtain ⟨b, hb⟩ : ∃ b, w.heap.size = b := ⟨_, rfl⟩
  rw [hb] at B1 ⊢
  clear b1 g1 s1 hb
  go_wp2_with fail
  go_loop [3, 4] (fun x i => ∃ k : Nat, k ≤ 8 ∧ i = .int .i64 k ∧ ∃ a : Nat, x = .int .u64 a ∧ a < 256 ^ k ∧ a = ofBe (h.take k)) (fun _ i => 8 - (intOf i).toNat)
  case atStart => exact ⟨0, Nat.zero_le _, rfl, 0, rfl, by simp, rfl⟩
  case round =>
    obtain ⟨k, hk, rfl, a, rfl, ha, hx⟩ := hrel
    have Ha := Lib.hid ha; have Hx := Lib.hid hx; clear ha hx
    by_cases hlt : k < 8
    · have hk2 : k < h.length := by rw [Hl.out]; omega
      have hcell := B1.out.row k _ (byteCells_get _ k hk2)
      rw [Nat.zero_add] at hcell
      obtain ⟨u, hu⟩ : ∃ u, u = h[k] := ⟨_, rfl⟩
      rw [← hu] at hcell
      have Hs := Lib.hid (show ofBe (h.take (k + 1)) = ofBe (h.take k) * 256 + u.toNat by rw [List.take_succ_eq_append_getElem hk2, ofBe_snoc, ← hu])
      have h7 : a < 72057594037927936 := Nat.lt_of_lt_of_le Ha.out (Nat.le_trans (Nat.pow_le_pow_right (by decide) (show k ≤ 7 by omega)) (by decide))
      have hu2 := u.toNat_lt
      obtain ⟨x, hx⟩ : ∃ x, a * 256 = x := ⟨_, rfl⟩
      obtain ⟨y, hy⟩ : ∃ y, x + u.toNat = y := ⟨_, rfl⟩
      have e1 : IntKind.u64.wrap ((a : Int) * 256) = (x : Int) := by rw [show ((a : Int) * 256) = (x : Int) by omega]; exact u64_in _ (Int.natCast_nonneg _) (by omega)
      have e2 : IntKind.u64.wrap ((u.toNat : Nat) : Int) = ((u.toNat : Nat) : Int) := u64_in _ (Int.natCast_nonneg _) (by omega)
      have e3 : IntKind.u64.wrap ((x : Int) + ((u.toNat : Nat) : Int)) = (y : Int) := by rw [show ((x : Int) + ((u.toNat : Nat) : Int)) = (y : Int) by omega]; exact u64_in _ (Int.natCast_nonneg _) (by omega)
      have Hy := Lib.hid (show y = a * 256 + u.toNat by omega)
      clear hk2 hu hx hy h7 hu2
      go_wp2
      refine ⟨⟨k + 1, by omega, by go_num, y, by first | rfl | rw [e3] | rw [e1, e3] | rw [e1, e2, e3], by rw [Hy.out]; exact pow_step a k u Ha.out, by rw [Hy.out, Hs.out, Hx.out]⟩, by simp [intOf]; omega⟩
    · obtain rfl : k = 8 := by omega
      have q1 : (a : Int) % 2305843009213693950 = ((numL h : Nat) : Int) := by
        unfold numL; rw [← Hx.out]; unfold pQ; simp
      go_wp2
      go_ret
      exact ⟨rfl, G1.out⟩

set_option maxHeartbeats 1000000 in
theorem rchallenge_ok (r key : Nat) (m : List UInt8) (v : Value) (w : World) (hr : r < 18446744073709551616) (hk : key < 18446744073709551616) (hv : RdB w v m) (hm : m.length ≤ 140737488354900) :
    Calls Tryz.prog 81 #[.int .u64 (r : Int), .int .u64 (key : Int), v] w fun e w' => e = .returned (.int .u64 (chalL r key m : Int)) ∧ w.grownBy w' none := by
  obtain ⟨ao, c, hv0, _⟩ := id hv
  subst hv0
  have HV := Lib.hid hv; have Hr := Lib.hid hr; have Hk := Lib.hid hk; have Hm := Lib.hid hm
  clear hv hr hk hm
  go_enter Tryz.func81, Tryz.ntmps81
  go_wp2_with fail
  refine (MWord_nat r w Hr.out).mono ?_
  rintro e w1 ⟨a1, n1, k1, rfl, r1, g1⟩
  have R1 := Lib.hid r1; have G1 := Lib.hid g1
  clear r1 g1
  go_wp2_with fail
  refine (MWord_nat key w1 Hk.out).mono ?_
  rintro e w2 ⟨a2, n2, k2, rfl, r2, g2⟩
  have R2 := Lib.hid r2; have R1' := Lib.hid (R1.out.grown g2); have G2 := Lib.hid (Lib.grownBy_trans G1.out g2)
  clear r2 g2 R1 G1
  go_wp2_with fail
  obtain ⟨w3, hw3, r3, g3⟩ := rdl_three w2 _ _ _ _ _ _ 27 R1'.out R2.out (HV.out.grown G2.out)
  rw [hw3]
  have C := rjoin_ok 2 [be 8 r, be 8 key, m] _ w3 r3 (by have := Hm.out; simp [be_length]; omega)
  have G3 := Lib.hid (Lib.grownBy_trans G2.out g3)
  clear r3 g3 hw3 R1' R2 G2
  have hbl := blake_len (2 :: [be 8 r, be 8 key, m].flatten)
  have hnl := show chalL r key m = numL (blake (2 :: [be 8 r, be 8 key, m].flatten)) from rfl
  obtain ⟨X, hX⟩ : ∃ X, blake (2 :: [be 8 r, be 8 key, m].flatten) = X := ⟨_, rfl⟩
  rw [hX] at C hbl hnl
  have HX := Lib.hid hnl; have HL := Lib.hid hbl
  clear hX hnl hbl
  refine C.mono ?_
  rintro e w4 ⟨rfl, g4⟩
  have G4 := Lib.hid (Lib.grownBy_trans G3.out g4)
  clear g4 C G3
  go_wp2_with fail
  refine (rnumber_ok X w4 HL.out).mono ?_
  rintro e w5 ⟨rfl, g5⟩
  have G5 := Lib.hid (Lib.grownBy_trans G4.out g5)
  clear g5 G4
  go_wp2_with fail
  go_ret
  rw [HX.out]
  exact ⟨rfl, G5.out⟩

set_option maxHeartbeats 1000000 in
theorem RRight_ok (x : Nat) (w : World) : Calls Tryz.prog 56 #[.int .u64 (x : Int)] w fun e w' => e = .returned (.bool (keyOk x)) ∧ w = w' := by
  rcases Nat.eq_zero_or_pos x with rfl | h0
  · go_enter Tryz.func56, Tryz.ntmps56
    go_wp2
    go_ret
    exact ⟨rfl, rfl⟩
  · have q1 : decide (1 ≤ x) = true := by simp; omega
    cases q2 : decide ((x : Int) ≤ 2305843009213693949) with
    | true =>
      have E := Lib.hid (show keyOk x = true by unfold keyOk pQ; simp at q2 ⊢; omega)
      have q3 : decide ((1 : Int) ≤ (x : Int)) = true := by simp; omega
      clear h0
      go_enter Tryz.func56, Tryz.ntmps56
      go_wp2
      go_ret
      rw [E.out]
      exact ⟨rfl, rfl⟩
    | false =>
      have E := Lib.hid (show keyOk x = false by unfold keyOk pQ; simp at q2 ⊢; omega)
      have q3 : decide ((1 : Int) ≤ (x : Int)) = true := by simp; omega
      clear h0
      go_enter Tryz.func56, Tryz.ntmps56
      go_wp2
      go_ret
      rw [E.out]
      exact ⟨rfl, rfl⟩

set_option maxHeartbeats 1000000 in
theorem RKey_ok (x : Nat) (w : World) (hx : x < 18446744073709551616) : Calls Tryz.prog 26 #[.int .u64 (x : Int)] w fun e w' => e = .returned (.tuple #[.int .u64 (((if keyOk x then pw 37 x else 0) : Nat) : Int), .int .i64 (if keyOk x then 0 else 41)]) ∧ w = w' := by
  have C := RRight_ok x w
  have P := Lib.hid (RPower_ok 37 x w (by omega) hx)
  clear hx
  cases h : keyOk x with
  | true =>
    rw [h] at C
    rw [if_pos rfl, if_pos rfl]
    obtain ⟨k, hk⟩ : ∃ k, pw 37 x = k := ⟨_, rfl⟩
    rw [hk] at P ⊢
    have HC := Lib.hid C
    clear h C hk
    go_enter Tryz.func26, Tryz.ntmps26
    go_wp2_with fail
    refine HC.out.mono ?_
    rintro e w' ⟨rfl, rfl⟩
    go_wp2_with fail
    refine P.out.mono ?_
    rintro e w' ⟨rfl, rfl⟩
    go_wp2_with fail
    go_ret2
    exact ⟨rfl, rfl⟩
  | false =>
    rw [h] at C
    rw [if_neg (by simp), if_neg (by simp)]
    have HC := Lib.hid C
    clear h C
    go_enter Tryz.func26, Tryz.ntmps26
    go_wp2_with fail
    refine HC.out.mono ?_
    rintro e w' ⟨rfl, rfl⟩
    go_wp2_with fail
    go_ret2
    exact ⟨rfl, rfl⟩

def sgL (x : Nat) (m : List UInt8) : Nat × Nat := if keyOk x then (sgR x m, sgS x m) else (0, 0)
set_option maxHeartbeats 2000000 in
theorem RSign_ok (x : Nat) (m : List UInt8) (v : Value) (w : World) (hx : x < 18446744073709551616) (hv : RdB w v m) (hm : m.length ≤ 140737488354900) :
    Calls Tryz.prog 87 #[.int .u64 (x : Int), v] w fun e w' => e = .returned (.tuple #[.agg (sigC (sgL x m).1 (sgL x m).2).toArray, .int .i64 (if keyOk x then 0 else 41)]) ∧ w.grownBy w' none := by
  obtain ⟨ao, c, hv0, _⟩ := id hv
  subst hv0
  have CK := RKey_ok x
  cases h : keyOk x with
  | false =>
    unfold sgL
    rw [h] at CK ⊢
    rw [if_neg (by simp), if_neg (by simp)] at CK
    rw [if_neg (by simp), if_neg (by simp)]
    have HC := Lib.hid (fun w => CK w hx)
    clear hv hm hx h CK
    go_enter Tryz.func87, Tryz.ntmps87
    go_wp2_with (refine wpList_alloc_as rfl 38 rfl (sigC 0 0) ZSig_info ?_)
    intro w1 b1 g1 s1
    have B1 := Lib.hid b1; have G1 := Lib.hid g1
    obtain ⟨b, hb⟩ : ∃ b, w.heap.size = b := ⟨_, rfl⟩
    rw [hb] at B1 ⊢
    have HB := Lib.hid hb
    clear b1 g1 s1 hb
    go_wp2_with fail
    refine (HC.out w1).mono ?_
    rintro e w' ⟨rfl, rfl⟩
    go_wp2_with (first | (refine wpList_build_eq rfl 38 _ rfl [] (by kernel_rfl) (sigC 0 0) bSigN ?_) | (refine wpList_store_whole rfl 38 _ _ rfl b rfl (sigC 0 0) (sigC 0 0) 38 rfl B1.out rfl (sigC_one 0 0) (sizeSigN 0 0) ?_))
    intro w2 g2 s2 b2
    have B2 := Lib.hid b2; have G2 := Lib.hid (grown_new G1.out g2 (by rw [HB.out]; exact Nat.le_refl _))
    clear b2 g2 s2
    go_wp2_with fail
    refine bodyPost_ret (results_cell_tmp rfl _ _ ⟨b, 0, none⟩ _ _ rfl rfl (run_loadVar_part _ _ _ 38 (sigC 0 0) _ B2.out.row Tryz.underlying38 rfl (sizeSigN 0 0))) rfl ?_
    exact ⟨rfl, G2.out⟩
  | true =>
    unfold sgL
    rw [h] at CK ⊢
    rw [if_pos rfl, if_pos rfl] at CK
    rw [if_pos rfl, if_pos rfl]
    dsimp only
    have hxq : x < 2305843009213693950 := by have : 1 ≤ x ∧ x < pQ := by simpa [keyOk] using h
                                             exact this.2
    obtain ⟨key, hkey⟩ : ∃ k, pw 37 x = k := ⟨_, rfl⟩
    rw [hkey] at CK
    have HC := Lib.hid (fun w => CK w hx)
    have HV := Lib.hid hv; have Hm := Lib.hid hm; have H := Lib.hid h; have Hx := Lib.hid hxq
    obtain ⟨k, hk⟩ : ∃ k, kNL x m = k := ⟨_, rfl⟩
    obtain ⟨r, hr⟩ : ∃ k, sgR x m = k := ⟨_, rfl⟩
    have Hkey := Lib.hid hkey; have Hk := Lib.hid hk; have Hr := Lib.hid hr
    have Kl := Lib.hid (show k < 2305843009213693950 by rw [← hk]; exact kNL_lt x m)
    clear hv hm h hx hkey hk hr hxq CK
    go_enter Tryz.func87, Tryz.ntmps87
    go_wp2_with (refine wpList_alloc_as rfl 38 rfl (sigC 0 0) ZSig_info ?_)
    intro w1 b1 g1 s1
    have B1 := Lib.hid b1; have G1 := Lib.hid g1
    obtain ⟨b, hb⟩ : ∃ b, w.heap.size = b := ⟨_, rfl⟩
    rw [hb] at B1 ⊢
    have HB := Lib.hid hb
    clear b1 g1 s1 hb
    go_wp2_with fail
    refine (HC.out w1).mono ?_
    rintro e w' ⟨rfl, rfl⟩
    go_wp2_with fail
    refine (MWord_nat x w1 (by have := Hx.out; omega)).mono ?_
    rintro e w3 ⟨a3, n3, k3, rfl, r3, g3⟩
    have B3 := Lib.hid (B1.out.grown g3 (by simp)); have G3 := Lib.hid (Lib.grownBy_trans G1.out g3); have R3 := Lib.hid r3
    clear r3 g3 B1 G1
    go_wp2_with fail
    obtain ⟨w4, hw4, r4, g4⟩ := rdl_two w3 _ _ _ _ 27 R3.out (HV.out.grown G3.out)
    rw [hw4]
    have C := rjoin_ok 1 [be 8 x, m] _ w4 r4 (by have := Hm.out; simp [be_length]; omega)
    have B4 := Lib.hid (B3.out.grown g4 (by simp)); have G4 := Lib.hid (Lib.grownBy_trans G3.out g4)
    clear r4 g4 hw4 R3 B3 G3
    have hbl := blake_len (1 :: [be 8 x, m].flatten)
    have hnl := show kNL x m = max (numL (blake (1 :: [be 8 x, m].flatten))) 1 from rfl
    obtain ⟨X, hX⟩ : ∃ X, blake (1 :: [be 8 x, m].flatten) = X := ⟨_, rfl⟩
    rw [hX] at C hbl hnl
    rw [Hk.out] at hnl
    have HX := Lib.hid hnl; have HL := Lib.hid hbl
    clear hX hnl hbl
    refine C.mono ?_
    rintro e w5 ⟨rfl, g5⟩
    have B5 := Lib.hid (B4.out.grown g5 (by simp)); have G5 := Lib.hid (Lib.grownBy_trans G4.out g5)
    clear g5 C B4 G4
    go_wp2_with fail
    refine (rnumber_ok X w5 HL.out).mono ?_
    rintro e w6 ⟨rfl, g6⟩
    have B6 := Lib.hid (B5.out.grown g6 (by simp)); have G6 := Lib.hid (Lib.grownBy_trans G5.out g6)
    clear g6 B5 G5
    obtain ⟨nx, hnx⟩ : ∃ n, numL X = n := ⟨_, rfl⟩
    have hkx := HX.out
    rw [hnx] at hkx ⊢
    have er : pw 37 k = r := by rw [← Hr.out, ← Hk.out]; rfl
    have P := RPower_ok 37 k w6 (by omega) (by have := Kl.out; omega)
    rw [er] at P
    have HP := Lib.hid P
    have D : nx = 0 ∧ k = 1 ∨ nx ≠ 0 ∧ nx = k := by omega
    clear hnx hkx er P
    rcases D with ⟨rfl, rfl⟩ | ⟨h0, rfl⟩
    all_goals
      first | (have q0 : ((nx : Int) == 0) = false := by simpa using h0) | skip
      go_wp2_with fail
      refine HP.out.mono ?_
      rintro e w' ⟨rfl, rfl⟩
      go_wp2_with fail
      have CC := rchallenge_ok r key m _ w6 (by rw [← Hr.out]; exact pw_u64 _ _) (by rw [← Hkey.out]; exact pw_u64 _ _) (HV.out.grown G6.out) Hm.out
      obtain ⟨ch, hch⟩ : ∃ n, chalL r key m = n := ⟨_, rfl⟩
      have Chl := Lib.hid (show ch < 2305843009213693950 by rw [← hch]; exact chalL_lt _ _ _)
      rw [hch] at CC
      have Hch := Lib.hid hch
      clear hch
      refine CC.mono ?_
      rintro e w8 ⟨rfl, g8⟩
      have B8 := Lib.hid (B6.out.grown g8 (by simp)); have G8 := Lib.hid (Lib.grownBy_trans G6.out g8)
      clear g8 CC
      go_wp2_with fail
      have TQ := rtimes_q ch x w8 (by have := Chl.out; omega) (by have := Hx.out; omega)
      obtain ⟨t, ht⟩ : ∃ n, ch * x % 2305843009213693950 = n := ⟨_, rfl⟩
      have Tl := Lib.hid (show t < 2305843009213693950 by rw [← ht]; exact Nat.mod_lt _ (by omega))
      rw [ht] at TQ
      have Ht := Lib.hid ht
      clear ht
      refine TQ.mono ?_
      rintro e w' ⟨rfl, rfl⟩
    · skip
      obtain ⟨z, hz⟩ : ∃ n, 1 + t = n := ⟨_, rfl⟩
      obtain ⟨s, hs⟩ : ∃ n, z % 2305843009213693950 = n := ⟨_, rfl⟩
      have f1 : IntKind.u64.wrap ((1 : Int) + (t : Int)) = (z : Int) := by
        rw [show ((1 : Int) + (t : Int)) = (z : Int) by omega]; exact u64_in _ (Int.natCast_nonneg _) (by have := Kl.out; have := Tl.out; omega)
      have f2 : (z : Int) % 2305843009213693950 = (s : Int) := by omega
      have Hs := Lib.hid (show sgS x m = s by
        unfold sgS; rw [Hk.out, Hr.out, Hkey.out, Hch.out, show pQ = 2305843009213693950 from rfl, Ht.out, hz, hs])
      clear hz hs TQ
      go_wp2_with (first | (refine wpList_store_whole rfl 38 _ _ rfl b rfl (sigC r s) (sigC 0 0) 38 rfl B8.out rfl (sigC_one r s) (sizeSigN r s) ?_))
      intro w10 g10 s10 b10
      have B10 := Lib.hid b10; have G10 := Lib.hid (grown_new G8.out g10 (by rw [HB.out]; exact Nat.le_refl _))
      clear b10 g10 s10
      go_wp2_with fail
      refine bodyPost_ret (results_cell_tmp rfl _ _ ⟨b, 0, none⟩ _ _ rfl rfl (run_loadVar_part _ _ _ 38 (sigC r s) _ B10.out.row Tryz.underlying38 rfl (sizeSigN r s))) rfl ?_
      rw [Hr.out, Hs.out]
      exact ⟨rfl, G10.out⟩
    · skip
      obtain ⟨z, hz⟩ : ∃ n, nx + t = n := ⟨_, rfl⟩
      obtain ⟨s, hs⟩ : ∃ n, z % 2305843009213693950 = n := ⟨_, rfl⟩
      have f1 : IntKind.u64.wrap ((nx : Int) + (t : Int)) = (z : Int) := by
        rw [show ((nx : Int) + (t : Int)) = (z : Int) by omega]; exact u64_in _ (Int.natCast_nonneg _) (by have := Kl.out; have := Tl.out; omega)
      have f2 : (z : Int) % 2305843009213693950 = (s : Int) := by omega
      have Hs := Lib.hid (show sgS x m = s by
        unfold sgS; rw [Hk.out, Hr.out, Hkey.out, Hch.out, show pQ = 2305843009213693950 from rfl, Ht.out, hz, hs])
      clear hz hs TQ
      go_wp2_with (first | (refine wpList_store_whole rfl 38 _ _ rfl b rfl (sigC r s) (sigC 0 0) 38 rfl B8.out rfl (sigC_one r s) (sizeSigN r s) ?_))
      intro w10 g10 s10 b10
      have B10 := Lib.hid b10; have G10 := Lib.hid (grown_new G8.out g10 (by rw [HB.out]; exact Nat.le_refl _))
      clear b10 g10 s10
      go_wp2_with fail
      refine bodyPost_ret (results_cell_tmp rfl _ _ ⟨b, 0, none⟩ _ _ rfl rfl (run_loadVar_part _ _ _ 38 (sigC r s) _ B10.out.row Tryz.underlying38 rfl (sizeSigN r s))) rfl ?_
      rw [Hr.out, Hs.out]
      exact ⟨rfl, G10.out⟩

set_option maxHeartbeats 2000000 in
theorem RVerify_ok (key r s : Nat) (m : List UInt8) (v : Value) (w : World) (hk : key < 18446744073709551616) (hr : r < 18446744073709551616) (hs : s < 18446744073709551616) (hv : RdB w v m) (hm : m.length ≤ 140737488354900) :
    Calls Tryz.prog 47 #[.int .u64 (key : Int), v, .agg (sigC r s).toArray] w fun e w' => e = .returned (.bool (vfyL key m r s)) ∧ w.grownBy w' none := by
  obtain ⟨ao, c, hv0, _⟩ := id hv
  subst hv0
  have HV := Lib.hid hv; have Hm := Lib.hid hm; have Hk := Lib.hid hk; have Hr := Lib.hid hr; have Hs := Lib.hid hs
  clear hv hm hk hr hs
  go_enter Tryz.func47, Tryz.ntmps47
  go_wp2_with (refine wpList_box_as rfl 38 _ rfl (sigC r s) rfl ?_)
  intro w1 b1 g1 s1
  obtain ⟨b, hb⟩ : ∃ b, w.heap.size = b := ⟨_, rfl⟩
  rw [hb] at b1 ⊢
  have B1 := Lib.hid b1; have G1 := Lib.hid g1
  have c0 := b1.row 0 _ rfl; have c1 := b1.row 1 _ rfl
  rw [Nat.zero_add] at c0 c1
  clear b1 g1 s1 hb
  have fin : ∀ x : Bool, vfyL key m r s = x → Ending.returned (.bool x) = Ending.returned (.bool (vfyL key m r s)) := fun x h => by rw [h]
  have F := Lib.hid fin
  clear fin
  rcases Nat.eq_zero_or_pos key with h1 | h1
  · have E := Lib.hid (show vfyL key m r s = false by unfold vfyL; rw [h1]; rfl)
    subst h1
    go_wp2_with fail
    go_ret
    exact ⟨F.out _ E.out, G1.out⟩
  have q1 : decide ((key : Int) < 1) = false := by simp; omega
  cases q2 : decide ((2305843009213693951 : Int) ≤ (key : Int)) with
  | true =>
    have E := Lib.hid (show vfyL key m r s = false by
      have : decide (key < pP) = false := by unfold pP; simp at q2 ⊢; omega
      unfold vfyL; rw [this]; simp)
    clear h1
    go_wp2_with fail
    go_ret
    exact ⟨F.out _ E.out, G1.out⟩
  | false =>
    have K1 := Lib.hid (show (decide (1 ≤ key) && decide (key < pP)) = true by unfold pP; simp at q2 ⊢; omega)
    clear h1
    rcases Nat.eq_zero_or_pos r with h3 | h3
    · have E := Lib.hid (show vfyL key m r s = false by unfold vfyL; rw [h3]; simp)
      subst h3
      go_wp2_with fail
      go_ret
      exact ⟨F.out _ E.out, G1.out⟩
    have q3 : decide ((r : Int) < 1) = false := by simp; omega
    cases q4 : decide ((2305843009213693951 : Int) ≤ (r : Int)) with
    | true =>
      have E := Lib.hid (show vfyL key m r s = false by
        have : decide (r < pP) = false := by unfold pP; simp at q4 ⊢; omega
        unfold vfyL; rw [this]; simp)
      clear h3
      go_wp2_with fail
      go_ret
      exact ⟨F.out _ E.out, G1.out⟩
    | false =>
      have K2 := Lib.hid (show (decide (1 ≤ r) && decide (r < pP)) = true by unfold pP; simp at q4 ⊢; omega)
      clear h3
      cases q5 : decide ((2305843009213693950 : Int) ≤ (s : Int)) with
      | true =>
        have E := Lib.hid (show vfyL key m r s = false by
          have : decide (s < pQ) = false := by unfold pQ; simp at q5 ⊢; omega
          unfold vfyL; rw [this]; simp)
        go_wp2_with fail
        go_ret
        exact ⟨F.out _ E.out, G1.out⟩
      | false =>
        have h4 : decide (s < pQ) = true := by unfold pQ; simp at q5 ⊢; omega
        have E := Lib.hid (show vfyL key m r s = decide (pw 37 s = r * pw key (chalL r key m) % pP) by unfold vfyL; rw [K1.out, K2.out, h4]; rfl)
        clear h4 K1 K2
        obtain ⟨ch, hch⟩ : ∃ n, chalL r key m = n := ⟨_, rfl⟩
        have Chl := Lib.hid (show ch < 2305843009213693950 by rw [← hch]; exact chalL_lt _ _ _)
        obtain ⟨p1, hp1⟩ : ∃ n, pw 37 s = n := ⟨_, rfl⟩
        obtain ⟨p2, hp2⟩ : ∃ n, pw key ch = n := ⟨_, rfl⟩
        obtain ⟨p3, hp3⟩ : ∃ n, r * p2 % 2305843009213693951 = n := ⟨_, rfl⟩
        have P2 := Lib.hid (show p2 < 18446744073709551616 by rw [← hp2]; exact pw_u64 _ _)
        rw [hch, hp1, hp2, show pP = 2305843009213693951 from rfl, hp3] at E
        have C1 := RPower_ok 37 s
        have C3 := RPower_ok key ch
        have C4 := rtimes_p r p2
        have C2 := rchallenge_ok r key m _ w1 Hr.out Hk.out (HV.out.grown G1.out) Hm.out
        rw [hch] at C2
        rw [hp1] at C1
        rw [hp2] at C3
        rw [hp3] at C4
        have K1 := Lib.hid (show ∀ w, Calls Tryz.prog 57 #[.int .u64 37, .int .u64 (s : Int)] w fun e w' => e = .returned (.int .u64 (p1 : Int)) ∧ w' = w from fun w => (C1 w (by omega) Hs.out).mono fun _ _ h => ⟨h.1, h.2.symm⟩)
        have K3 := Lib.hid (show ∀ w, Calls Tryz.prog 57 #[.int .u64 (key : Int), .int .u64 (ch : Int)] w fun e w' => e = .returned (.int .u64 (p2 : Int)) ∧ w' = w from fun w => (C3 w Hk.out (by have := Chl.out; omega)).mono fun _ _ h => ⟨h.1, h.2.symm⟩)
        have K4 := Lib.hid (show ∀ w, Calls Tryz.prog 82 #[.int .u64 (r : Int), .int .u64 (p2 : Int), .int .u64 2305843009213693951] w fun e w' => e = .returned (.int .u64 (p3 : Int)) ∧ w' = w from fun w => (C4 w Hr.out P2.out).mono fun _ _ h => ⟨h.1, h.2.symm⟩)
        have K2 := Lib.hid C2
        clear hch hp1 hp2 hp3 C1 C2 C3 C4
        go_wp2_with fail
        refine K2.out.mono ?_
        rintro e w2 ⟨rfl, g2⟩
        have d0 := g2.cell (a := ⟨b, 0, none⟩) c0 (by simp); have d1 := g2.cell (a := ⟨b, 1, none⟩) c1 (by simp)
        have G2 := Lib.hid (Lib.grownBy_trans G1.out g2)
        clear g2 c0 c1 K2
        go_wp2_with fail
        go_quiet ((first | (go_at_call 57; first | with_reducible exact Calls.quiet_of_same (K1.out _) | with_reducible exact Calls.quiet_of_same (K3.out _)) | (go_at_call 82; exact Calls.quiet_of_same (K4.out _))))
        go_wp2_with fail
        go_ret
        rw [E.out, ← beq_cast]
        exact ⟨rfl, Lib.grownBy_trans G2.out (drew_grown _ _)⟩

end Go.Proofs.YtcbkehnlgpcelaaGreatDoor
