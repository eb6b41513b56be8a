/- Walks: nuncioref06.ReadPacket. -/
import Derived.Test.YtaffpgafbjhahaaDoorRefP
import Derived.Test.YtaffpgafbjhahaaDoorQSet
namespace Go.Proofs.YtaffpgafbjhahaaDoor
open Go.RowKit
set_option maxRecDepth 100000

theorem bPacket1 (h : Int) : Tryd.prog.built 38 [(0, .int .i64 h)] = some ([.int .i64 h, .string ⟨#[]⟩, .string ⟨#[]⟩, .int .i64 0] : List Value).toArray := by kernel_rfl
theorem bPacket0 : Tryd.prog.built 38 [] = some ZPacket.toArray := by kernel_rfl
theorem one_str : (Tryd.prog.info? 9).map (·.size) = some 1 := by kernel_rfl
theorem rdPacket_none : (rdPacket none).2 = none := rfl
theorem decQPacket_t (l : List UInt8) (h : (decide ((rdPacket (kst 6 (some l))).2 = some []) && okPacket (rdPacket (kst 6 (some l))).1) = true) : (decPacket l).map PacketD.cells = some (rdPacket (kst 6 (some l))).1.cells := by
  by_cases hk : (rdNum (some l)).1 = 6
  · rw [kst_eq hk] at h ⊢; exact decPacket_t l hk h
  · rw [kst_ne rfl hk, rdPacket_none] at h; simp at h
theorem decQPacket_f (l : List UInt8) (h : (decide ((rdPacket (kst 6 (some l))).2 = some []) && okPacket (rdPacket (kst 6 (some l))).1) = false) : (decPacket l).map PacketD.cells = none := by
  by_cases hk : (rdNum (some l)).1 = 6
  · rw [kst_eq hk] at h; exact decPacket_f l h
  · exact decPacket_k l hk
theorem rdPacket_from (s : RS) : (rdPacket s).1.from_.size ≤ 140737488340000 := by
  show (rdText (rdNum s).2).1.toArray.size ≤ _
  have h1 := rdText_len (rdNum s).2
  rw [List.size_toArray]; omega

set_option maxHeartbeats 1000000 in
theorem ReadPacket_any (v : Value) (l : List UInt8) (w : World) (hv : RdB w v l) :
    Calls Tryd.prog 24 #[v] w (Decodes ((decPacket l).map PacketD.cells) ZPacket w) := by
  have ht := decQPacket_t l; have hf := decQPacket_f l
  have wfd := rdPacket_wf (kst 6 (some l)); have hch := rdPacket_from (kst 6 (some l))
  obtain ⟨D, hD⟩ : ∃ D, rdPacket (kst 6 (some l)) = D := ⟨_, rfl⟩
  rw [hD] at ht hf wfd hch
  have Ht := Lib.hid ht; have Hf := Lib.hid hf; have Wf := Lib.hid wfd; have Hch := Lib.hid hch; have HD := Lib.hid hD
  clear ht hf wfd hch hD
  obtain ⟨ao, c, rfl, hle, hcm, hrow⟩ := hv
  have Hcm := Lib.hid hcm; have Hle := Lib.hid hle; have Hrow := Lib.hid hrow
  clear hcm hle hrow
  go_enter Tryd.func24, Tryd.ntmps24
  go_wp2_with (refine wpList_alloc_as rfl 38 rfl ZPacket ZPacket_info ?_)
  intro W1 b1 g1 s1
  have B1 := Lib.hid b1; have G1 := Lib.hid g1; have S1 := Lib.hid b1.lt; clear b1 g1 s1
  go_wp2_with (first | (refine wpList_build_eq rfl 124 _ rfl _ rfl [.slice ao l.length c, .bool false] (bReader _ _ _) ?_) | (refine wpList_box_agg rfl 124 _ rfl [.slice ao l.length c, .bool false] rfl ?_))
  intro W2 b2 g2 s2
  have hp : w.heap.size ≤ W1.heap.size := G1.out.size
  have R := Lib.hid (newReader b2 (Hle.out) Hcm.out (by
    rcases Hrow.out with h | ⟨g, o, e, h1, h2⟩
    · exact Or.inl h
    · exact Or.inr ⟨g, o, e, by omega, (h2.grown G1.out (by simp)).grown g2 (by simp)⟩))
  have G := Lib.hid (Lib.grownBy_trans G1.out g2)
  replace B1 := Lib.hid (B1.out.grown g2 (by simp))
  have Hp := Lib.hid hp; have Hrb := Lib.hid (show w.heap.size < W1.heap.size from S1.out)
  clear b2 g2 s2 hp
  obtain ⟨p, hpp⟩ : ∃ p, W1.heap.size = p := ⟨_, rfl⟩
  rw [hpp] at R Hp Hrb ⊢
  have Hpp := Lib.hid hpp; clear hpp
  go_upto_region 2 with (fail)
  go_cut [] from 11 (fun w' => IsR w' p (kst 6 (some l)) ∧ W2.grownBy w' (some p))
  case first =>
    go_wp2_with fail
    refine (QNumber p (some l) _ R.out).mono ?_
    rintro e w2 ⟨rfl, h1, h2⟩
    have R := Lib.hid h1; have G := Lib.hid h2
    obtain ⟨n, hn⟩ : ∃ n, (rdNum (some l)).1 = n := ⟨_, rfl⟩
    rw [hn]
    obtain ⟨s1, hs1⟩ : ∃ s1, (rdNum (some l)).2 = s1 := ⟨_, rfl⟩
    rw [hs1] at R h1
    by_cases hk : n = 6
    · subst hk
      have Hk := Lib.hid ((kst_eq hn).trans hs1)
      obtain ⟨f0, f1, hst⟩ := h1
      clear hn h2 hs1
      cases s1 with
      | none =>
        obtain ⟨_, c1⟩ := hst
        go_wp2
        go_meet
        case rel => exact ⟨by rw [Hk.out]; exact R.out.again, Lib.grownBy_trans G.out (Lib.grownBy_setCell w2 p 1 _)⟩
      | some l =>
        obtain ⟨c1, _⟩ := hst
        go_wp2
        go_meet
        case rel => exact ⟨by rw [Hk.out]; exact R.out.same, Lib.grownBy_trans G.out (Lib.grownBy_setCell w2 p 1 _)⟩
    · have Hk := Lib.hid (kst_ne hn hk)
      have d : (n != 6) = true := by simpa using hk
      have hb : ∃ b, w2.cell? ⟨p, 1, none⟩ = some (.bool b) := by
        obtain ⟨_, _, hst⟩ := h1
        cases s1 with
        | none => exact ⟨_, hst.2⟩
        | some l => exact ⟨_, hst.1⟩
      obtain ⟨b, hb⟩ := hb
      obtain ⟨f0, f1, _⟩ := h1
      clear hn h2 hs1 hk
      go_wp2
      go_meet
      case rel =>
        refine ⟨?_, Lib.grownBy_trans G.out (Lib.grownBy_setCell w2 p 1 _)⟩
        rw [Hk.out]
        cases s1 with
        | none => exact R.out.again
        | some l => exact R.out.breaks
  case rest =>
  obtain ⟨h1, h2⟩ := hcut
  obtain ⟨s0, hs0⟩ : ∃ s0, kst 6 (some l) = s0 := ⟨_, rfl⟩
  rw [hs0] at h1
  have Hs0 := Lib.hid hs0
  replace R := Lib.hid h1; replace G := Lib.hid (grown_new G.out h2 Hp.out); replace B1 := Lib.hid (B1.out.grown h2 (by have := Hrb.out; simp; omega)); clear h1 h2 hs0
  go_wp2_with fail
  refine (QNumber p s0 _ R.out).mono ?_
  rintro e w3 ⟨rfl, h1, h2⟩
  replace R := Lib.hid h1; replace G := Lib.hid (grown_new G.out h2 Hp.out); replace B1 := Lib.hid (B1.out.grown h2 (by have := Hrb.out; simp; omega))
  have Hm := Lib.hid (show p < w3.heap.size from R.out.lt)
  clear h1 h2
  obtain ⟨x0, e0⟩ : ∃ x, (rdNum s0).1 = x := ⟨_, rfl⟩
  rw [e0]
  have E0 := Lib.hid e0; clear e0
  go_wp2_with (first | (refine wpList_build_eq rfl 38 _ rfl [(0, .int .i64 x0)] (by kernel_rfl) _ (bPacket1 x0) ?_) | (refine wpList_alloc_as rfl 38 rfl ZPacket ZPacket_info ?_))
  intro w4 b4 g4 s4
  replace R := Lib.hid (R.out.grown g4); replace G := Lib.hid (Lib.grownBy_trans G.out g4); replace B1 := Lib.hid (B1.out.grown g4 (by simp)); have L := Lib.hid b4
  clear b4 g4 s4
  go_wp2_with (refine wpList_store_whole rfl 38 _ _ rfl w3.heap.size rfl [.int .i64 x0, .string ⟨#[]⟩, .string ⟨#[]⟩, .int .i64 0] ZPacket 38 rfl L.out rfl (by simp [Value.oneCell']) (sizePacket _ rfl) ?_)
  intro w5 g5 s5 b5
  replace R := Lib.hid (R.out.grownAt g5 Hm.out); replace G := Lib.hid (grown_new G.out g5 (by have := Hm.out; have := Hp.out; omega)); replace B1 := Lib.hid (B1.out.grown g5 (by have := Hm.out; have := Hrb.out; simp; omega)); replace L := Lib.hid b5
  clear b5 g5 s5
  go_wp2_with fail
  refine (QText p _ _ R.out).mono ?_
  rintro e w6 ⟨rfl, h1, h2⟩
  replace R := Lib.hid h1; replace G := Lib.hid (grown_new G.out h2 Hp.out); replace B1 := Lib.hid (B1.out.grown h2 (by have := Hrb.out; simp; omega)); replace L := Lib.hid (L.out.grown h2 (by have := Hm.out; simp; omega)); clear h1 h2
  obtain ⟨x1, ex1⟩ : ∃ x : ByteArray, (⟨(rdText (rdNum s0).2).1.toArray⟩ : ByteArray) = x := ⟨_, rfl⟩
  rw [ex1]
  have Ex1 := Lib.hid ex1; clear ex1
  go_wp2_with (refine wpList_store_cell rfl 9 _ _ rfl w3.heap.size 1 rfl _ rfl rfl [.int .i64 x0, .string ⟨#[]⟩, .string ⟨#[]⟩, .int .i64 0] 38 L.out (by simp) one_str ?_)
  intro w7 g s b
  replace R := Lib.hid (R.out.grownAt g Hm.out); replace G := Lib.hid (grown_new G.out g (by have := Hm.out; have := Hp.out; omega)); replace B1 := Lib.hid (B1.out.grown g (by have := Hm.out; have := Hrb.out; simp; omega)); replace L := Lib.hid (show Blk w7 w3.heap.size [.int .i64 x0, .string x1, .string ⟨#[]⟩, .int .i64 0] 38 from b); clear g s b
  go_wp2_with fail
  refine (QText p _ _ R.out).mono ?_
  rintro e w8 ⟨rfl, h1, h2⟩
  replace R := Lib.hid h1; replace G := Lib.hid (grown_new G.out h2 Hp.out); replace B1 := Lib.hid (B1.out.grown h2 (by have := Hrb.out; simp; omega)); replace L := Lib.hid (L.out.grown h2 (by have := Hm.out; simp; omega)); clear h1 h2
  obtain ⟨x2, ex2⟩ : ∃ x : ByteArray, (⟨(rdText (rdText (rdNum s0).2).2).1.toArray⟩ : ByteArray) = x := ⟨_, rfl⟩
  rw [ex2]
  have Ex2 := Lib.hid ex2; clear ex2
  go_wp2_with (refine wpList_store_cell rfl 9 _ _ rfl w3.heap.size 2 rfl _ rfl rfl [.int .i64 x0, .string x1, .string ⟨#[]⟩, .int .i64 0] 38 L.out (by simp) one_str ?_)
  intro w9 g s b
  replace R := Lib.hid (R.out.grownAt g Hm.out); replace G := Lib.hid (grown_new G.out g (by have := Hm.out; have := Hp.out; omega)); replace B1 := Lib.hid (B1.out.grown g (by have := Hm.out; have := Hrb.out; simp; omega)); replace L := Lib.hid (show Blk w9 w3.heap.size [.int .i64 x0, .string x1, .string x2, .int .i64 0] 38 from b); clear g s b
  go_wp2_with fail
  refine (QNumber p _ _ R.out).mono ?_
  rintro e w10 ⟨rfl, h1, h2⟩
  replace R := Lib.hid h1; replace G := Lib.hid (grown_new G.out h2 Hp.out); replace B1 := Lib.hid (B1.out.grown h2 (by have := Hrb.out; simp; omega)); replace L := Lib.hid (L.out.grown h2 (by have := Hm.out; simp; omega)); clear h1 h2
  obtain ⟨x3, ex3⟩ : ∃ x, (rdNum (rdText (rdText (rdNum s0).2).2).2).1 = x := ⟨_, rfl⟩
  rw [ex3]
  have Ex3 := Lib.hid ex3; clear ex3
  go_wp2_with (refine wpList_store_cell rfl 3 _ _ rfl w3.heap.size 3 rfl _ rfl rfl [.int .i64 x0, .string x1, .string x2, .int .i64 0] 38 L.out (by simp) one_int ?_)
  intro w11 g s b
  replace R := Lib.hid (R.out.grownAt g Hm.out); replace G := Lib.hid (grown_new G.out g (by have := Hm.out; have := Hp.out; omega)); replace B1 := Lib.hid (B1.out.grown g (by have := Hm.out; have := Hrb.out; simp; omega)); replace L := Lib.hid (show Blk w11 w3.heap.size [.int .i64 x0, .string x1, .string x2, .int .i64 x3] 38 from b); clear g s b
  have hDD : D = (⟨x0, x1, x2, x3⟩, (rdNum (rdText (rdText (rdNum s0).2).2).2).2) := by
    rw [← HD.out, Hs0.out]; unfold rdPacket; rw [E0.out, Ex1.out, Ex2.out, Ex3.out]
  obtain ⟨dd, st⟩ := D
  injection hDD with hD1 hD2
  rw [← hD2] at R
  subst hD1
  clear hD2 E0 Ex1 Ex2 Ex3
  dsimp only at *
  go_wp2_with (refine wpList_load_part rfl 38 _ rfl w3.heap.size 0 rfl [.int .i64 x0, .string x1, .string x2, .int .i64 x3] _ L.out.row Tryd.underlying38 rfl (sizePacket _ rfl) ?_)
  refine (RPacket ⟨x0, x1, x2, x3⟩ _ Wf.out Hch.out).mono ?_
  rintro e w12 ⟨a6, n6, c6, rfl, -, b6⟩
  have g6 := below_grown b6
  replace R := Lib.hid (R.out.grown g6); replace G := Lib.hid (Lib.grownBy_trans G.out g6); replace B1 := Lib.hid (B1.out.grown g6 (by simp)); replace L := Lib.hid (L.out.grown g6 (by simp))
  clear b6 g6
  obtain ⟨ok, hok⟩ : ∃ ok, okPacket ⟨x0, x1, x2, x3⟩ = ok := ⟨_, rfl⟩
  rw [hok] at Ht Hf ⊢
  go_wp2_with fail
  refine (ends_any _ st _ _ R.out).mono ?_; rintro e w' ⟨rfl, rfl⟩
  cases hb : (decide (st = some []) && ok)
  · rw [endsN_no hb]
    have Hn := Lib.hid (Hf.out hb); clear hb hok
    go_wp2_with (first | (refine wpList_build_eq rfl 38 _ rfl _ rfl _ bPacket0 ?_) | (refine wpList_store_whole rfl 38 _ _ rfl w.heap.size rfl ZPacket ZPacket 38 rfl B1.out rfl (by simp [ZPacket, Value.oneCell']) (sizePacket _ rfl) ?_))
    intro w7 g7 s7 b7
    have B7 := Lib.hid b7; have G7 := Lib.hid (grown_new G.out g7 (Nat.le_refl _)); clear b7 g7 s7
    go_wp2_with fail
    refine bodyPost_ret (results_cell_tmp rfl _ _ ⟨w.heap.size, 0, none⟩ _ _ rfl rfl (run_loadVar_part _ _ _ 38 ZPacket _ B7.out.row Tryd.underlying38 rfl (sizePacket _ rfl))) rfl ?_
    exact Decodes.no Hn.out (below_of_grown G7.out) rfl
  · rw [endsN_yes hb]
    have Hn := Lib.hid (Ht.out hb); clear hb hok
    go_wp2_with (first | (refine wpList_load_part rfl 38 _ rfl w3.heap.size 0 rfl [.int .i64 x0, .string x1, .string x2, .int .i64 x3] _ L.out.row Tryd.underlying38 rfl (sizePacket _ rfl) ?_) | (refine wpList_store_whole rfl 38 _ _ rfl w.heap.size rfl [.int .i64 x0, .string x1, .string x2, .int .i64 x3] ZPacket 38 rfl B1.out rfl (by simp [Value.oneCell']) (sizePacket _ rfl) ?_))
    intro w7 g7 s7 b7
    have B7 := Lib.hid b7; have G7 := Lib.hid (grown_new G.out g7 (Nat.le_refl _)); clear b7 g7 s7
    go_wp2_with fail
    refine bodyPost_ret (results_cell_tmp rfl _ _ ⟨w.heap.size, 0, none⟩ _ _ rfl rfl (run_loadVar_part _ _ _ 38 [.int .i64 x0, .string x1, .string x2, .int .i64 x3] _ B7.out.row Tryd.underlying38 rfl (sizePacket _ rfl))) rfl ?_
    exact Decodes.yes Hn.out (below_of_grown G7.out) rfl

end Go.Proofs.YtaffpgafbjhahaaDoor
