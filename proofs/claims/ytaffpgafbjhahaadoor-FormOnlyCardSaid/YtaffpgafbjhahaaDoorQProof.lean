/- Walks: nuncioref06.ReadProof. -/
import Derived.Test.YtaffpgafbjhahaaDoorQPacket
import Derived.Test.YtaffpgafbjhahaaDoorPrf5
import Derived.Test.YtaffpgafbjhahaaDoorRefQ
namespace Go.Proofs.YtaffpgafbjhahaaDoor
open Go.RowKit
set_option maxRecDepth 100000

theorem enters_qHash : ∀ args w, (callFunc 83 args).run Tryd.prog w = .ok (.enter 83 args) w := enters Tryd.func83 (by kernel_rfl) rfl
theorem bPart1 (i : Int) : Tryd.prog.built 46 [(0, .int .i64 i)] = some ([.int .i64 i, .string ⟨#[]⟩, .string ⟨#[]⟩, .slice none 0 0] : List Value).toArray := by kernel_rfl
theorem bProof0 : Tryd.prog.built 41 [] = some ZProof.toArray := by kernel_rfl
theorem rdProof_none : (rdProof none).2 = none := rfl
theorem decQProof (l : List UInt8) : decProof l = if (decide ((rdProof (kst 7 (some l))).2 = some []) && okProof (rdProof (kst 7 (some l))).1) = true then some (rdProof (kst 7 (some l))).1 else none := by
  rw [rdProof_ok]
  by_cases hk : (rdNum (some l)).1 = 7
  · rw [kst_eq hk]; unfold decProof
    by_cases h : (rdProof (rdNum (some l)).2).2 = some []
    · by_cases ho : chkProof (rdProof (rdNum (some l)).2).1 = true
      · rw [if_pos ⟨hk, h, ho⟩, if_pos (by rw [decide_eq_true h, ho]; rfl)]
      · rw [if_neg (fun x => ho x.2.2), if_neg (by rw [decide_eq_true h, Bool.true_and]; exact ho)]
    · rw [if_neg (fun x => h x.2.1), if_neg (by rw [decide_eq_false h, Bool.false_and]; simp)]
  · rw [kst_ne rfl hk, rdProof_none, if_neg (by simp)]
    exact if_neg (fun h => hk h.1)

set_option maxHeartbeats 8000000 in
theorem ReadProof_any (v : Value) (l : List UInt8) (w : World) (hv : RdB w v l) :
    Calls Tryd.prog 26 #[v] w (DecodesP (decProof l) w) := by
  rw [decQProof]
  have wfd := rdProof_wf (kst 7 (some l))
  obtain ⟨D, hD⟩ : ∃ D, rdProof (kst 7 (some l)) = D := ⟨_, rfl⟩
  rw [hD] at wfd ⊢
  obtain ⟨r, hr⟩ : ∃ r, (if (decide (D.2 = some []) && okProof D.1) = true then some D.1 else none) = r := ⟨_, rfl⟩
  rw [hr]
  have Hr0 := Lib.hid hr; have Wf := Lib.hid wfd; have HD := Lib.hid hD
  clear hr wfd hD
  obtain ⟨ao, c, rfl, hle, hcm, hrow⟩ := hv
  have Hcm := Lib.hid hcm; have Hle := Lib.hid hle; have Hrow := Lib.hid hrow
  clear hcm hle hrow
  go_enter Tryd.func26, Tryd.ntmps26
  go_wp2_with (refine wpList_alloc_as rfl 41 rfl ZProof ZProof_info ?_)
  intro W1 b1 g1 s1
  have B1 := Lib.hid b1; have G1 := Lib.hid g1; have S1 := Lib.hid b1.lt; clear b1 g1 s1
  go_wp2_with (first | (refine wpList_build_eq rfl 124 _ rfl _ rfl [.slice ao l.length c, .bool false] (bReader _ _ _) ?_) | (refine wpList_box_agg rfl 124 _ rfl [.slice ao l.length c, .bool false] rfl ?_))
  intro W2 b2 g2 s2
  have hp : w.heap.size ≤ W1.heap.size := G1.out.size
  have R := Lib.hid (newReader b2 (Hle.out) Hcm.out (by
    rcases Hrow.out with h | ⟨g, o, e, h1, h2⟩
    · exact Or.inl h
    · exact Or.inr ⟨g, o, e, by omega, (h2.grown G1.out (by simp)).grown g2 (by simp)⟩))
  have G := Lib.hid (Lib.grownBy_trans G1.out g2)
  replace B1 := Lib.hid (B1.out.grown g2 (by simp))
  have Hp := Lib.hid hp; have Hrb := Lib.hid (show w.heap.size < W1.heap.size from S1.out)
  clear b2 g2 s2 hp
  obtain ⟨p, hpp⟩ : ∃ p, W1.heap.size = p := ⟨_, rfl⟩
  rw [hpp] at R Hp Hrb ⊢
  have Hpp := Lib.hid hpp; clear hpp
  go_upto_region 2 with (fail)
  go_cut [] from 16 (fun w' => IsR w' p (kst 7 (some l)) ∧ W2.grownBy w' (some p))
  case first =>
    go_wp2_with fail
    refine (QNumber p (some l) _ R.out).mono ?_
    rintro e w2 ⟨rfl, h1, h2⟩
    have R := Lib.hid h1; have G := Lib.hid h2
    obtain ⟨n, hn⟩ : ∃ n, (rdNum (some l)).1 = n := ⟨_, rfl⟩
    rw [hn]
    obtain ⟨s1, hs1⟩ : ∃ s1, (rdNum (some l)).2 = s1 := ⟨_, rfl⟩
    rw [hs1] at R h1
    by_cases hk : n = 7
    · subst hk
      have Hk := Lib.hid ((kst_eq hn).trans hs1)
      obtain ⟨f0, f1, hst⟩ := h1
      clear hn h2 hs1
      cases s1 with
      | none =>
        obtain ⟨_, c1⟩ := hst
        go_wp2
        go_meet
        case rel => exact ⟨by rw [Hk.out]; exact R.out.again, Lib.grownBy_trans G.out (Lib.grownBy_setCell w2 p 1 _)⟩
      | some l =>
        obtain ⟨c1, _⟩ := hst
        go_wp2
        go_meet
        case rel => exact ⟨by rw [Hk.out]; exact R.out.same, Lib.grownBy_trans G.out (Lib.grownBy_setCell w2 p 1 _)⟩
    · have Hk := Lib.hid (kst_ne hn hk)
      have d : (n != 7) = true := by simpa using hk
      have hb : ∃ b, w2.cell? ⟨p, 1, none⟩ = some (.bool b) := by
        obtain ⟨_, _, hst⟩ := h1
        cases s1 with
        | none => exact ⟨_, hst.2⟩
        | some l => exact ⟨_, hst.1⟩
      obtain ⟨b, hb⟩ := hb
      obtain ⟨f0, f1, _⟩ := h1
      clear hn h2 hs1 hk
      go_wp2
      go_meet
      case rel =>
        refine ⟨?_, Lib.grownBy_trans G.out (Lib.grownBy_setCell w2 p 1 _)⟩
        rw [Hk.out]
        cases s1 with
        | none => exact R.out.again
        | some l => exact R.out.breaks
  case rest =>
  obtain ⟨h1, h2⟩ := hcut
  obtain ⟨s0, hs0⟩ : ∃ s0, kst 7 (some l) = s0 := ⟨_, rfl⟩
  rw [hs0] at h1
  have Hs0 := Lib.hid hs0
  replace R := Lib.hid h1; replace G := Lib.hid (grown_new G.out h2 Hp.out); replace B1 := Lib.hid (B1.out.grown h2 (by have := Hrb.out; simp; omega)); clear h1 h2 hs0
  go_wp2_with fail
  refine (QNumber p s0 _ R.out).mono ?_
  rintro e wm ⟨rfl, h1, h2⟩
  replace R := Lib.hid h1; replace G := Lib.hid (grown_new G.out h2 Hp.out); replace B1 := Lib.hid (B1.out.grown h2 (by have := Hrb.out; simp; omega)); clear h1 h2
  have hm : p < wm.heap.size := R.out.lt
  obtain ⟨hh, ehh⟩ : ∃ x, (rdNum s0).1 = x := ⟨_, rfl⟩
  rw [ehh]
  have E1 := Lib.hid ehh; clear ehh
  go_wp2_with (first | (refine wpList_build_eq rfl 41 _ rfl [(0, .int .i64 hh)] (by kernel_rfl) _ (bProof1 hh) ?_) | (refine wpList_alloc_as rfl 41 rfl ZProof ZProof_info ?_))
  intro w5 b3 g3 s3
  replace R := Lib.hid (R.out.grown g3); replace G := Lib.hid (Lib.grownBy_trans G.out g3); replace B1 := Lib.hid (B1.out.grown g3 (by simp)); have L := Lib.hid b3; clear b3 g3 s3
  go_wp2_with (refine wpList_store_whole rfl 41 _ _ rfl wm.heap.size rfl [.int .i64 hh, .slice none 0 0] ZProof 41 rfl L.out rfl (by simp [Value.oneCell']) sizeProof ?_)
  intro w6 g4 s4 b4
  replace R := Lib.hid (R.out.grownAt g4 hm); replace G := Lib.hid (grown_new G.out g4 (by have := Hp.out; omega)); replace B1 := Lib.hid (B1.out.grown g4 (by have := Hrb.out; simp; omega)); replace L := Lib.hid b4; clear b4 g4 s4
  go_wp2_with fail
  refine (QCount p 2 _ _ R.out (by omega)).mono ?_
  rintro e w7 ⟨rfl, h1, h2⟩
  have hc := rdCount_R 2 (rdNum s0).2 (by omega)
  obtain ⟨N, hN⟩ := Int.eq_ofNat_of_zero_le hc.1
  have hd : D = ({ size := (rdNum s0).1, parts := (rdParts N (rdCount 2 (rdNum s0).2).2).1 }, (rdParts N (rdCount 2 (rdNum s0).2).2).2) := by rw [← HD.out, Hs0.out]; unfold rdProof; rw [hN]; rfl
  rw [hN] at hc ⊢
  obtain ⟨s2, hs2⟩ : ∃ s2, (rdCount 2 (rdNum s0).2).2 = s2 := ⟨_, rfl⟩
  rw [hs2] at h1 hd
  rw [E1.out] at hd
  replace R := Lib.hid h1; replace G := Lib.hid (grown_new G.out h2 Hp.out); replace B1 := Lib.hid (B1.out.grown h2 (by have := Hrb.out; simp; omega)); replace L := Lib.hid (L.out.grown h2 (by simp; omega)); have Hd := Lib.hid hd
  have hN2 : N ≤ 2 := by omega
  clear h1 h2 hs2 hN hd hc
  obtain ⟨mp, hmp⟩ : ∃ mp, wm.heap.size = mp := ⟨_, rfl⟩
  rw [hmp] at hm L ⊢
  have Hmp := Lib.hid hmp; clear hmp
  have hm0 : w7.heap.size ≤ w7.heap.size := Nat.le_refl _
  go_wp2_with fail
  go_loopw [7] (fun i wr => ∃ k : Nat, k ≤ N ∧ i = .int .i64 k ∧ (∃ v pcs, wr.ownsRow (mp + 1) 46 4 v k pcs ∧ partsR (PF (mp + 1) wr v.ownBlock) (rdParts k s2).1 pcs ∧ Blk wr mp [.int .i64 hh, v] 41) ∧ IsR wr p (rdParts k s2).2 ∧ (w.grownBy wr none ∧ Blk wr w.heap.size ZProof 41)) (fun i _ => N - (intOf i).toNat)
  case atStart => exact ⟨0, Nat.zero_le _, rfl, ⟨_, [], World.ownsRow_nil _ _ _ _, rfl, L.out⟩, R.out, G.out, B1.out⟩
  case round =>
    obtain ⟨k, hk, rfl, ⟨v, pcs, ho, hpc, hl⟩, hr, hg, hb1⟩ := hrel
    obtain ⟨va, vn, vc, rfl⟩ := own_shape ho
    have Ho := Lib.hid ho; have Hpc := Lib.hid hpc; have Hl := Lib.hid hl; have Hr := Lib.hid hr; have Hg := Lib.hid hg; have Hb1 := Lib.hid hb1; clear ho hpc hl hr hg hb1
    have hbase : mp + 1 ≤ wr.heap.size := Hl.out.lt
    by_cases hlt2 : k < N
    · obtain ⟨sk, hsk⟩ : ∃ s, (rdParts k s2).2 = s := ⟨_, rfl⟩
      rw [hsk] at Hr
      have Hsk := Lib.hid hsk; clear hsk
      go_wp2_with fail
      refine (QNumber p _ _ Hr.out).mono ?_
      rintro e w10 ⟨rfl, h1, h2⟩
      have Rx := Lib.hid (show IsR w10 p (pS1 sk) from h1); have Gx := Lib.hid h2; clear h1 h2
      obtain ⟨xi, exi⟩ : ∃ x, (rdNum sk).1 = x := ⟨_, rfl⟩
      rw [exi]
      have X1 := Lib.hid exi; clear exi
      have hmx : mp + 1 ≤ w10.heap.size := Nat.le_trans hbase Gx.out.size
      have hpx : p < w10.heap.size := Rx.out.lt
      have hwr : wr.heap.size ≤ w10.heap.size := Gx.out.size
      go_wp2_with (first | (refine wpList_build_eq rfl 46 _ rfl [(0, .int .i64 xi)] (by kernel_rfl) _ (bPart1 xi) ?_) | (refine wpList_alloc_as rfl 46 rfl ZPart ZPart_info ?_))
      intro w11 b3 g3 s3
      replace Rx := Lib.hid (Rx.out.grown g3); replace Gx := Lib.hid (Lib.grownBy_trans Gx.out (grown_none g3)); have Lx := Lib.hid b3; clear b3 g3 s3
      go_wp2_with (refine wpList_store_whole rfl 46 _ _ rfl w10.heap.size rfl [.int .i64 xi, .string ⟨#[]⟩, .string ⟨#[]⟩, .slice none 0 0] ZPart 46 rfl Lx.out rfl (by simp [Value.oneCell']) sizePart ?_)
      intro w12 g4 s4 b4
      replace Rx := Lib.hid (Rx.out.grownAt g4 hpx); replace Gx := Lib.hid (grown_new Gx.out g4 hwr); replace Lx := Lib.hid b4; clear b4 g4 s4
      go_wp2_with fail
      refine (QText p _ _ Rx.out).mono ?_
      rintro e w13 ⟨rfl, h1, h2⟩
      replace Rx := Lib.hid (show IsR w13 p (pS2 sk) from h1); replace Gx := Lib.hid (Lib.grownBy_trans Gx.out h2); replace Lx := Lib.hid (Lx.out.grown h2 (by simp; omega)); clear h1 h2
      obtain ⟨xk, exk⟩ : ∃ x : ByteArray, (⟨(rdText (pS1 sk)).1.toArray⟩ : ByteArray) = x := ⟨_, rfl⟩
      rw [exk]
      have X2 := Lib.hid exk; clear exk
      go_wp2_with (refine wpList_store_cell rfl 9 _ _ rfl w10.heap.size 1 rfl _ rfl rfl [.int .i64 xi, .string ⟨#[]⟩, .string ⟨#[]⟩, .slice none 0 0] 46 Lx.out (by simp) one_str ?_)
      intro w14 g4 s4 b4
      replace Rx := Lib.hid (Rx.out.grownAt g4 hpx); replace Gx := Lib.hid (grown_new Gx.out g4 hwr); replace Lx := Lib.hid (show Blk w14 w10.heap.size [.int .i64 xi, .string xk, .string ⟨#[]⟩, .slice none 0 0] 46 from b4); clear b4 g4 s4
      go_wp2_with fail
      refine (QText p _ _ Rx.out).mono ?_
      rintro e w15 ⟨rfl, h1, h2⟩
      replace Rx := Lib.hid (show IsR w15 p (pS3 sk) from h1); replace Gx := Lib.hid (Lib.grownBy_trans Gx.out h2); replace Lx := Lib.hid (Lx.out.grown h2 (by simp; omega)); clear h1 h2
      obtain ⟨xv, exv⟩ : ∃ x : ByteArray, (⟨(rdText (pS2 sk)).1.toArray⟩ : ByteArray) = x := ⟨_, rfl⟩
      rw [exv]
      have X3 := Lib.hid exv; clear exv
      go_wp2_with (refine wpList_store_cell rfl 9 _ _ rfl w10.heap.size 2 rfl _ rfl rfl [.int .i64 xi, .string xk, .string ⟨#[]⟩, .slice none 0 0] 46 Lx.out (by simp) one_str ?_)
      intro w16 g4 s4 b4
      replace Rx := Lib.hid (Rx.out.grownAt g4 hpx); replace Gx := Lib.hid (grown_new Gx.out g4 hwr); replace Lx := Lib.hid (show Blk w16 w10.heap.size [.int .i64 xi, .string xk, .string xv, .slice none 0 0] 46 from b4); clear b4 g4 s4
      go_wp2_with fail
      refine (QCount p 16 _ _ Rx.out (by omega)).mono ?_
      rintro e w17 ⟨rfl, h1, h2⟩
      have hcx := rdCount_R 16 (pS3 sk) (by omega)
      obtain ⟨M, hM⟩ := Int.eq_ofNat_of_zero_le hcx.1
      have hpart : rdPart sk = (⟨xi, xk, xv, (rdPath M (pS4 sk)).1⟩, (rdPath M (pS4 sk)).2) := by
        unfold rdPart pN; rw [hM, X1.out, X2.out, X3.out]; rfl
      rw [hM] at hcx ⊢
      replace Rx := Lib.hid (show IsR w17 p (pS4 sk) from h1); replace Gx := Lib.hid (Lib.grownBy_trans Gx.out h2); replace Lx := Lib.hid (Lx.out.grown h2 (by simp; omega)); clear h1 h2
      obtain ⟨s4, hs4⟩ : ∃ s, pS4 sk = s := ⟨_, rfl⟩
      rw [hs4] at Rx hpart
      have HP := Lib.hid hpart
      have hM16 : M ≤ 16 := by omega
      obtain ⟨mx, hmx2⟩ : ∃ m, w10.heap.size = m := ⟨_, rfl⟩
      rw [hmx2] at Lx hmx hpx hwr ⊢
      clear hpart hs4 hM hcx hmx2
      go_wp2_with fail
      go_loopw [10] (fun i wi => ∃ j : Nat, j ≤ M ∧ i = .int .i64 j ∧ (∃ pv, wi.ownsRow (mx + 1) 24 32 pv j (pathCells (rdPath j s4).1) ∧ Blk wi mx [.int .i64 xi, .string xk, .string xv, pv] 46) ∧ IsR wi p (rdPath j s4).2 ∧ wr.grownBy wi (some p)) (fun i _ => M - (intOf i).toNat)
      case atStart => exact ⟨0, Nat.zero_le _, rfl, ⟨_, World.ownsRow_nil _ _ _ _, Lx.out⟩, Rx.out, Gx.out⟩
      case round =>
        obtain ⟨j, hj, rfl, ⟨pv, ho2, hl2⟩, hr2, hg2⟩ := hrel
        obtain ⟨pa, pn, pc, rfl⟩ := own_shape ho2
        have O2 := Lib.hid ho2; have L2 := Lib.hid hl2; have R2 := Lib.hid hr2; have G2 := Lib.hid hg2; clear ho2 hl2 hr2 hg2
        have hb2 : mx + 1 ≤ wr.heap.size := L2.out.lt
        by_cases hlt3 : j < M
        · have c3 := L2.out.row 3 _ rfl; rw [Nat.zero_add] at c3
          have f3 := L2.out.frozen 3
          obtain ⟨x, hx⟩ : ∃ x, (rdHash (rdPath j s4).2).1 = x := ⟨_, rfl⟩
          have Hx32 : x.length = 32 := hx ▸ rdHash_len _
          obtain ⟨s5, hs5⟩ : ∃ s, (rdHash (rdPath j s4).2).2 = s := ⟨_, rfl⟩
          have C := QHash' p (rdPath j s4).2 wr.drew (show IsR wr.drew p _ from R2.out)
          rw [hx, hs5] at C
          have C := Lib.hid C
          have Hx := Lib.hid hx; have Hs5 := Lib.hid hs5
          have hbs := fold_hash x Hx32
          have hxl : (Lib.byteCells x).length = 32 := by rw [Lib.byteCells_length]; exact Hx32
          have hx1 := oneCell_bytes x
          clear hx hs5
          go_upto_region 15 with (fail)
          go_region_law ((first | (refine step_wanted (by rfl) (wp_call 83 _ _ (by rfl) enters_qHash (by rfl) C.out ?_); rintro e w8 ⟨rfl, r8, g8⟩; refine ⟨_, rfl, ?_⟩; have c8 := g8.cell (a := ⟨mx, 3, none⟩) c3 (by simp; omega); have f8 := (frozen_grown g8 (a := ⟨mx, 3, none⟩) (by show mx < wr.heap.size; omega) (by simp; omega)).trans f3; have o8 := World.ownsRow.kept (show wr.drew.ownsRow _ _ _ _ _ _ from O2.out) g8 (own_ne O2.out (by omega)); have z8 : mx + 1 ≤ w8.heap.size := Nat.le_trans hb2 g8.size; have ca8 := fun o => (keep_alloc c8 f8 o).1) | (refine step_wanted (by rfl) (wp_app_new w8 _ _ 44 (by rfl) (mx + 1) 24 _ 32 32 Tryd.underlying44 hash_info3 (by rfl) _ j _ (by rfl) o8 (by rfl) (Lib.byteCells x) hxl hx1 (by omega) (by omega) z8 ?_); intro v' w10 o10 b10 _; obtain ⟨a10, n10, k10, rfl⟩ := own_shape o10; have c10 := (b10.cell (p := ⟨mx, 3, none⟩) (Nat.lt_succ_self _)).trans c8; have f10 := (b10.frozen (p := ⟨mx, 3, none⟩) (Nat.lt_succ_self _)).trans f8)))
          all_goals
            go_wp2
            have L9 := (L2.out.grown (undrew_grown g8) (by simp; omega))
            have L10 := (b10.block mx (Nat.lt_succ_self _)).trans L9
            refine ⟨⟨j + 1, by omega, by go_num, ⟨.slice a10 n10 k10, ?_, ?_⟩, ?_, ?_⟩, by simp [intOf]; omega⟩
            · rw [pathCells_snoc, Hx.out]; exact ownsRow_setCell_below o10 (by simp) _
            · have := heap_setCell_same L10 3 (.slice a10 n10 k10)
              unfold Blk
              simpa using this
            · rw [show (rdPath (j + 1) s4).2 = s5 from Hs5.out]
              exact (IsR.other (r8.below b10 (by omega)) hpx _)
            · exact grown_below (Lib.grownBy_trans G2.out (undrew_grown g8)) (((b10.mono (by omega)).setCell (by simp; omega) _))
        · obtain rfl : j = M := by omega
          have Lp := Lib.hid (Hl.out.grown G2.out (by simp; omega))
          have Op := Lib.hid (World.ownsRow.kept Ho.out G2.out (own_ne Ho.out (by omega)))
          have Pp := Lib.hid (Hpc.out.mono fun v l hv => PF.stays hv fun b hb hlt => G2.out.block b hlt (by simp; omega))
          have hvb : ∀ g, (Value.slice va vn vc).ownBlock = some g → g < mx + 1 := fun g hg => by have := (World.ownsRow.lt Ho.out g hg).2; omega
          have hml : pcs.length = k * 4 := Ho.out.1
          have c1 := Lp.out.row 1 _ rfl; rw [Nat.zero_add] at c1
          have hbw : mp + 1 ≤ wr.heap.size := by omega
          have hfl : flatCells [.agg ([.int .i64 xi, .string xk, .string xv, .slice pa pn pc] : List Value).toArray] = [.int .i64 xi, .string xk, .string xv, .slice pa pn pc] := by simp [flatCells, Value.cells]
          have hsz : ∀ u ∈ [Value.agg ([.int .i64 xi, .string xk, .string xv, .slice pa pn pc] : List Value).toArray], u.cells.size = 4 := by simp [Value.cells]
          have hsn : [Value.agg ([.int .i64 xi, .string xk, .string xv, .slice pa pn pc] : List Value).toArray].length * 4 ≤ 16777216 := by simp
          go_wp2_with (first | (refine wpList_load_part rfl 46 _ rfl mx 0 rfl [.int .i64 xi, .string xk, .string xv, .slice pa pn pc] _ L2.out.row Tryd.underlying46 rfl sizePart ?_) | (refine wpList_buildSlice_all rfl 39 1 _ rfl [.agg ([.int .i64 xi, .string xk, .string xv, .slice pa pn pc] : List Value).toArray] (by kernel_rfl) rfl [.int .i64 xi, .string xk, .string xv, .slice pa pn pc] hfl 46 _ 4 Tryd.underlying39 part_zs hsz hsn ?_))
          intro wb bb gb sb
          have Bb := Lib.hid bb; have Gb := Lib.hid gb
          have Lb := Lib.hid (Lp.out.grown gb (by simp)); have Ob := Lib.hid (World.ownsRow.kept Op.out gb (by cases hq : (Value.slice va vn vc).ownBlock <;> simp [hq]))
          have Pb := Lib.hid (Pp.out.mono fun v l hv => PF.stays hv fun b hb hlt => gb.block b hlt (by simp))
          have Nb := Lib.hid (PF_new (B := mp + 1) (own := (Value.slice va vn vc).ownBlock) (World.ownsRow.kept (show wr.ownsRow (mx + 1) 24 32 (.slice pa pn pc) (rdPath j s4).1.length (pathCells (rdPath j s4).1) by rw [rdPath_len]; exact O2.out) gb (by cases hq : (Value.slice pa pn pc).ownBlock <;> simp [hq])) (by omega) hvb)
          have hbw2 : mp + 1 ≤ wb.heap.size := Nat.le_trans hbw gb.size
          have hpb : p < wb.heap.size := by omega
          clear bb gb sb c1
          go_wp2_with (first | (refine wpList_app_blk rfl _ _ 39 rfl (mp + 1) 46 _ 4 64 Tryd.underlying39 part_info rfl _ k _ rfl Ob.out wr.heap.size rfl [.int .i64 xi, .string xk, .string xv, .slice pa pn pc] Bb.out.row rfl (by simp [Value.oneCell']) (by omega) (by omega) hbw2 ?_; intro v' wd od gd bd ed; obtain ⟨ad, nd, kd, rfl⟩ := own_shape od; have Ld := Lib.hid ((bd.block mp (Nat.lt_succ_self _)).trans Lb.out); have Od := Lib.hid od; have Gd := Lib.hid gd; have Bd := Lib.hid bd; have Ed := Lib.hid ed; clear od gd bd ed) | (refine wpList_store_cell rfl 39 _ _ rfl mp 1 rfl (.slice ad nd kd) rfl rfl [.int .i64 hh, .slice va vn vc] 41 Ld.out (by simp) one_parts ?_))
          intro we ge se be
          have Oe := World.ownsRow.kept Od.out ge (own_ne Od.out (by omega))
          have Pe := (Pb.out.mono fun v l hv => PF.app hv Gd.out Ed.out).mono fun v l hv => PF.stays hv fun b hb hlt => ge.block b hlt (by simp; omega)
          have Ne := PF.stays (PF.app Nb.out Gd.out Ed.out) fun b hb hlt => ge.block b hlt (by simp; omega)
          have Re := ((R2.out.grown Gb.out).below Bd.out (by omega)).grownAt ge hm
          have hwp : w.heap.size < p := Hrb.out
          have Gq := Lib.grownBy_trans G2.out (grown_none Gb.out)
          have Ge := grown_new (grown_below (grown_new Hg.out Gq (by omega)) (Bd.out.mono (show w.heap.size ≤ mp + 1 by omega))) ge (by omega)
          have Be := ((Hb1.out.grown Gq (by simp; omega)).below (Bd.out.mono (show w.heap.size + 1 ≤ mp + 1 by omega)) (Nat.lt_succ_self _)).grown ge (by simp; omega)
          clear Bb Gb Lb Ob Pb Nb Ld Od Gd Bd Ed
          go_wp2_with fail
          refine ⟨⟨k + 1, by omega, by go_num, ⟨.slice ad nd kd, pcs ++ [.int .i64 xi, .string xk, .string xv, .slice pa pn pc], Oe, ?_, be⟩, ?_, Ge, Be⟩, by simp [intOf]; omega⟩
          · have : (rdParts (k + 1) s2).1 = (rdParts k s2).1 ++ [(rdPart sk).1] := by rw [← Hsk.out]; rfl
            rw [this, HP.out]
            exact Pe.snoc (p := ⟨xi, xk, xv, (rdPath j s4).1⟩) Ne
          · have : (rdParts (k + 1) s2).2 = (rdPart sk).2 := by rw [← Hsk.out]; rfl
            rw [this, HP.out]; exact Re
    · obtain rfl : k = N := by omega
      have Own := Lib.hid (show (({ size := hh, parts := (rdParts k s2).1 } : ProofD)).own (mp + 1) wr [.int .i64 hh, .slice va vn vc] from ⟨_, pcs, by rw [rdParts_len]; exact Ho.out, Hpc.out, rfl⟩)
      obtain ⟨dd, hdd⟩ : ∃ x : ProofD, ({ size := hh, parts := (rdParts k s2).1 } : ProofD) = x := ⟨_, rfl⟩
      rw [hdd] at Own
      obtain ⟨st, hst⟩ : ∃ s, (rdParts k s2).2 = s := ⟨_, rfl⟩
      rw [hst] at Hr
      have hD2 : D = (dd, st) := by rw [Hd.out, hdd, hst]
      have hwf := Wf.out; have hr0 := Hr0.out
      rw [hD2] at hwf hr0
      have Wd := Lib.hid hwf
      have Hr1 := Lib.hid (show (if (decide (st = some []) && okProof dd) = true then some dd else none) = r from hr0)
      clear hwf hr0 hD2 hdd hst Hd HD Hr0 Wf Ho Hpc
      go_wp2_with (refine wpList_load_part rfl 41 _ rfl mp 0 rfl [.int .i64 hh, .slice va vn vc] _ Hl.out.row Tryd.underlying41 rfl sizeProof ?_)
      refine (RProof dd _ _ Own.out.rep (Nat.le_refl _) Wd.out).mono ?_
      rintro e w18 ⟨a6, n6, c6, rfl, -, b6⟩
      have g6 := below_grown b6
      have R8 := Lib.hid (Hr.out.grown g6); have G8 := Lib.hid (Lib.grownBy_trans Hg.out g6); have B8 := Lib.hid (Hb1.out.grown g6 (by simp)); have L8 := Lib.hid (Hl.out.grown g6 (by simp))
      have O8 := Lib.hid (Own.out.stays fun b _ hlt => g6.block b hlt (by simp))
      have hwp : w.heap.size < mp + 1 := by have := Hrb.out; omega
      clear b6 g6 Own
      go_wp2_with fail
      refine (ends_any _ st _ _ R8.out).mono ?_; rintro e w' ⟨rfl, rfl⟩
      cases hb : (decide (st = some []) && okProof dd)
      · rw [endsN_no hb]
        have Hq := Lib.hid (Hr1.out.symm.trans (if_neg (by rw [hb]; simp)))
        clear hb
        go_wp2_with (first | (refine wpList_build_eq rfl 41 _ rfl _ rfl _ bProof0 ?_) | (refine wpList_store_whole rfl 41 _ _ rfl w.heap.size rfl ZProof ZProof 41 rfl B8.out rfl ZProof_one sizeProof ?_))
        intro w7 g7 s7 b7
        have B7 := Lib.hid b7; have G7 := Lib.hid (grown_new G8.out g7 (Nat.le_refl _)); clear b7 g7 s7
        go_wp2_with fail
        refine bodyPost_ret (results_cell_tmp rfl _ _ ⟨w.heap.size, 0, none⟩ _ _ rfl rfl (run_loadVar_part _ _ _ 41 ZProof _ B7.out.row Tryd.underlying41 rfl sizeProof)) rfl ?_
        rw [Hq.out]
        exact ⟨below_of_grown G7.out, _, rfl, zProof_own _ _⟩
      · rw [endsN_yes hb]
        have Hq := Lib.hid (Hr1.out.symm.trans (if_pos hb))
        clear hb
        go_wp2_with (first | (refine wpList_load_part rfl 41 _ rfl mp 0 rfl [.int .i64 hh, .slice va vn vc] _ L8.out.row Tryd.underlying41 rfl sizeProof ?_) | (refine wpList_store_whole rfl 41 _ _ rfl w.heap.size rfl [.int .i64 hh, .slice va vn vc] ZProof 41 rfl B8.out rfl O8.out.one sizeProof ?_))
        intro w7 g7 s7 b7
        have B7 := Lib.hid b7; have G7 := Lib.hid (grown_new G8.out g7 (Nat.le_refl _))
        replace O8 := Lib.hid (O8.out.stays fun b hb hlt => g7.block b hlt (by simp; omega)); clear b7 g7 s7
        go_wp2_with fail
        refine bodyPost_ret (results_cell_tmp rfl _ _ ⟨w.heap.size, 0, none⟩ _ _ rfl rfl (run_loadVar_part _ _ _ 41 [.int .i64 hh, .slice va vn vc] _ B7.out.row Tryd.underlying41 rfl sizeProof)) rfl ?_
        rw [Hq.out]
        exact ⟨below_of_grown G7.out, _, rfl, O8.out.mono (by omega)⟩

end Go.Proofs.YtaffpgafbjhahaaDoor
