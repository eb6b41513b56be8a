/- Walks: forms.DecodeProof. -/
import Derived.Test.YtaffpgafbjhahaaDoorPrf3
import Derived.Test.YtaffpgafbjhahaaDoorDecProof
namespace Go.Proofs.YtaffpgafbjhahaaDoor
open Go.RowKit
set_option maxRecDepth 100000

theorem bProof1 (h : Int) : Tryd.prog.built 41 [(0, .int .i64 h)] = some ([.int .i64 h, .slice none 0 0] : List Value).toArray := by kernel_rfl
theorem bEntry (a b : ByteArray) : Tryd.prog.built 43 [(0, .string a), (1, .string b)] = some ([.string a, .string b] : List Value).toArray := by kernel_rfl
theorem bPart (i : Int) (a b : ByteArray) : Tryd.prog.built 46 [(0, .int .i64 i), (1, .agg ([.string a, .string b] : List Value).toArray)] = some ([.int .i64 i, .string a, .string b, .slice none 0 0] : List Value).toArray := by kernel_rfl
theorem one_path : (Tryd.prog.info? 44).map (·.size) = some 1 := by kernel_rfl
theorem one_parts : (Tryd.prog.info? 39).map (·.size) = some 1 := by kernel_rfl
theorem enters_rHash : ∀ args w, (callFunc 65 args).run Tryd.prog w = .ok (.enter 65 args) w := enters Tryd.func65 (by kernel_rfl) rfl
theorem fold_hash (x : List UInt8) (hx : x.length = 32) : List.foldl (fun (cs : Array Value) (y : Value × Nat) => cs.setIfInBounds y.snd y.fst) #[.int .u8 0, .int .u8 0, .int .u8 0, .int .u8 0, .int .u8 0, .int .u8 0, .int .u8 0, .int .u8 0, .int .u8 0, .int .u8 0, .int .u8 0, .int .u8 0, .int .u8 0, .int .u8 0, .int .u8 0, .int .u8 0, .int .u8 0, .int .u8 0, .int .u8 0, .int .u8 0, .int .u8 0, .int .u8 0, .int .u8 0, .int .u8 0, .int .u8 0, .int .u8 0, .int .u8 0, .int .u8 0, .int .u8 0, .int .u8 0, .int .u8 0, .int .u8 0] (Lib.byteCells x).zipIdx = (Lib.byteCells x).toArray := by
  have := fold_part [] [.int .u8 0, .int .u8 0, .int .u8 0, .int .u8 0, .int .u8 0, .int .u8 0, .int .u8 0, .int .u8 0, .int .u8 0, .int .u8 0, .int .u8 0, .int .u8 0, .int .u8 0, .int .u8 0, .int .u8 0, .int .u8 0, .int .u8 0, .int .u8 0, .int .u8 0, .int .u8 0, .int .u8 0, .int .u8 0, .int .u8 0, .int .u8 0, .int .u8 0, .int .u8 0, .int .u8 0, .int .u8 0, .int .u8 0, .int .u8 0, .int .u8 0, .int .u8 0] [] (Lib.byteCells x) (by rw [Lib.byteCells_length, hx]; rfl)
  simpa using this

set_option maxHeartbeats 4000000 in
theorem ProofBody_yes (p : Nat) (st : RS) (w : World) (h : IsR w p st) (hk : (rdNum st).1 = 7) :
    Calls Tryd.prog 80 #[.pointer (some ⟨p, 0, none⟩)] w fun e w' => ∃ cs, e = .returned (.agg cs.toArray) ∧ (rdProof (rdNum st).2).1.own w.heap.size w' cs ∧ IsR w' p (rdProof (rdNum st).2).2 ∧ w.grownBy w' (some p) := by
  have H := Lib.hid h; have Hk := Lib.hid hk
  have hlt := h.lt
  clear h hk
  go_enter Tryd.func80, Tryd.ntmps80
  go_wp2_with (refine wpList_alloc_as rfl 41 rfl ZProof ZProof_info ?_)
  intro W1 b1 g1 s1
  have B1 := Lib.hid b1; have G1 := Lib.hid g1
  have R := Lib.hid (H.out.grown g1)
  have hrb : w.heap.size < W1.heap.size := b1.lt
  clear b1 g1 s1
  go_wp2_with fail
  refine (kind_yes p 7 _ _ R.out Hk.out).mono ?_
  rintro e w2 ⟨rfl, h1, h2⟩
  obtain ⟨s1, hs1⟩ : ∃ s1, (rdNum st).2 = s1 := ⟨_, rfl⟩
  rw [hs1] at h1
  replace R := Lib.hid h1; have G := Lib.hid h2; have Hs1 := Lib.hid hs1; clear h1 h2 hs1
  go_wp2_with fail
  refine (RNumber p _ _ R.out).mono ?_
  rintro e wm ⟨rfl, h1, h2⟩
  replace R := Lib.hid h1; replace G := Lib.hid (Lib.grownBy_trans G.out h2); clear h1 h2
  have hm : p < wm.heap.size := R.out.lt
  have hm0 : W1.heap.size ≤ wm.heap.size := G.out.size
  obtain ⟨hh, ehh⟩ : ∃ x, (rdNum s1).1 = x := ⟨_, rfl⟩
  rw [ehh]
  have E1 := Lib.hid ehh; clear ehh
  go_wp2_with (first | (refine wpList_build_eq rfl 41 _ rfl [(0, .int .i64 hh)] (by kernel_rfl) _ (bProof1 hh) ?_) | (refine wpList_alloc_as rfl 41 rfl ZProof ZProof_info ?_))
  intro w5 b3 g3 s3
  replace R := Lib.hid (R.out.grown g3); replace G := Lib.hid (Lib.grownBy_trans G.out (grown_none g3)); have L := Lib.hid b3; clear b3 g3 s3
  go_wp2_with (refine wpList_store_whole rfl 41 _ _ rfl wm.heap.size rfl [.int .i64 hh, .slice none 0 0] ZProof 41 rfl L.out rfl (by simp [Value.oneCell']) sizeProof ?_)
  intro w6 g4 s4 b4
  replace R := Lib.hid (R.out.grownAt g4 hm); replace G := Lib.hid (grown_new G.out g4 hm0); replace L := Lib.hid b4; clear b4 g4 s4
  go_wp2_with fail
  refine (RCount p 2 _ _ R.out).mono ?_
  rintro e w7 ⟨rfl, h1, h2⟩
  have hc := rdCount_R 2 (rdNum s1).2 (by omega)
  obtain ⟨N, hN⟩ := Int.eq_ofNat_of_zero_le hc.1
  have hd : (rdProof s1) = ({ size := (rdNum s1).1, parts := (rdParts N (rdCount 2 (rdNum s1).2).2).1 }, (rdParts N (rdCount 2 (rdNum s1).2).2).2) := by unfold rdProof; rw [hN]; rfl
  rw [hN] at hc ⊢
  obtain ⟨s2, hs2⟩ : ∃ s2, (rdCount 2 (rdNum s1).2).2 = s2 := ⟨_, rfl⟩
  rw [hs2] at h1 hd
  rw [E1.out] at hd
  replace R := Lib.hid h1; replace G := Lib.hid (Lib.grownBy_trans G.out h2); replace L := Lib.hid (L.out.grown h2 (by simp; omega)); have Hd := Lib.hid hd
  have hN2 : N ≤ 2 := by omega
  clear h1 h2 hs2 hN hd hc
  obtain ⟨mp, hmp⟩ : ∃ mp, wm.heap.size = mp := ⟨_, rfl⟩
  rw [hmp] at hm hm0 L ⊢
  have Hmp := Lib.hid hmp; clear hmp
  go_wp2_with fail
  go_loopw [12] (fun i wr => ∃ k : Nat, k ≤ N ∧ i = .int .i64 k ∧ (∃ v pcs, wr.ownsRow (mp + 1) 46 4 v k pcs ∧ partsR (PF (mp + 1) wr v.ownBlock) (rdParts k s2).1 pcs ∧ Blk wr mp [.int .i64 hh, v] 41) ∧ IsR wr p (rdParts k s2).2 ∧ W1.grownBy wr (some p)) (fun i _ => N - (intOf i).toNat)
  case atStart => exact ⟨0, Nat.zero_le _, rfl, ⟨_, [], World.ownsRow_nil _ _ _ _, rfl, L.out⟩, R.out, G.out⟩
  case round =>
    obtain ⟨k, hk, rfl, ⟨v, pcs, ho, hpc, hl⟩, hr, hg⟩ := hrel
    obtain ⟨va, vn, vc, rfl⟩ := own_shape ho
    have Ho := Lib.hid ho; have Hpc := Lib.hid hpc; have Hl := Lib.hid hl; have Hr := Lib.hid hr; have Hg := Lib.hid hg; clear ho hpc hl hr hg
    have hbase : mp + 1 ≤ wr.heap.size := Hl.out.lt
    by_cases hlt2 : k < N
    · obtain ⟨sk, hsk⟩ : ∃ s, (rdParts k s2).2 = s := ⟨_, rfl⟩
      rw [hsk] at Hr
      have Hsk := Lib.hid hsk; clear hsk
      go_wp2_with fail
      refine (RNumber p _ _ Hr.out).mono ?_
      rintro e w8 ⟨rfl, h1, h2⟩
      have Rx := Lib.hid (show IsR w8 p (pS1 sk) from h1); have Gx := Lib.hid h2; clear h1 h2
      go_wp2_with fail
      refine (RText p _ _ Rx.out).mono ?_
      rintro e w9 ⟨rfl, h1, h2⟩
      replace Rx := Lib.hid (show IsR w9 p (pS2 sk) from h1); replace Gx := Lib.hid (Lib.grownBy_trans Gx.out h2); clear h1 h2
      go_wp2_with fail
      refine (RText p _ _ Rx.out).mono ?_
      rintro e w10 ⟨rfl, h1, h2⟩
      replace Rx := Lib.hid (show IsR w10 p (pS3 sk) from h1); replace Gx := Lib.hid (Lib.grownBy_trans Gx.out h2); clear h1 h2
      obtain ⟨xi, exi⟩ : ∃ x, (rdNum sk).1 = x := ⟨_, rfl⟩
      obtain ⟨xk, exk⟩ : ∃ x : ByteArray, (⟨(rdText (pS1 sk)).1.toArray⟩ : ByteArray) = x := ⟨_, rfl⟩
      obtain ⟨xv, exv⟩ : ∃ x : ByteArray, (⟨(rdText (pS2 sk)).1.toArray⟩ : ByteArray) = x := ⟨_, rfl⟩
      rw [exi, exk, exv]
      have X1 := Lib.hid exi; have X2 := Lib.hid exk; have X3 := Lib.hid exv; clear exi exk exv
      have hmx : mp + 1 ≤ w10.heap.size := Nat.le_trans hbase Gx.out.size
      have hpx : p < w10.heap.size := Rx.out.lt
      have hwr : wr.heap.size ≤ w10.heap.size := Gx.out.size
      go_wp2_with (first | (refine wpList_build_eq rfl 43 _ rfl [(0, .string xk), (1, .string xv)] (by kernel_rfl) _ (bEntry xk xv) ?_) | (refine wpList_build_eq rfl 46 _ rfl [(0, .int .i64 xi), (1, .agg ([.string xk, .string xv] : List Value).toArray)] (by kernel_rfl) _ (bPart xi xk xv) ?_) | (refine wpList_alloc_as rfl 46 rfl ZPart ZPart_info ?_))
      intro w11 b3 g3 s3
      replace Rx := Lib.hid (Rx.out.grown g3); replace Gx := Lib.hid (Lib.grownBy_trans Gx.out (grown_none g3)); have Lx := Lib.hid b3; clear b3 g3 s3
      go_wp2_with (refine wpList_store_whole rfl 46 _ _ rfl w10.heap.size rfl [.int .i64 xi, .string xk, .string xv, .slice none 0 0] ZPart 46 rfl Lx.out rfl (by simp [Value.oneCell']) sizePart ?_)
      intro w12 g4 s4 b4
      replace Rx := Lib.hid (Rx.out.grownAt g4 hpx); replace Gx := Lib.hid (grown_new Gx.out g4 hwr); replace Lx := Lib.hid b4; clear b4 g4 s4
      go_wp2_with fail
      refine (RCount p 16 _ _ Rx.out).mono ?_
      rintro e w13 ⟨rfl, h1, h2⟩
      have hcx := rdCount_R 16 (pS3 sk) (by omega)
      obtain ⟨M, hM⟩ := Int.eq_ofNat_of_zero_le hcx.1
      have hpart : rdPart sk = (⟨xi, xk, xv, (rdPath M (pS4 sk)).1⟩, (rdPath M (pS4 sk)).2) := by
        unfold rdPart pN; rw [hM, X1.out, X2.out, X3.out]; rfl
      rw [hM] at hcx ⊢
      replace Rx := Lib.hid (show IsR w13 p (pS4 sk) from h1); replace Gx := Lib.hid (Lib.grownBy_trans Gx.out h2); replace Lx := Lib.hid (Lx.out.grown h2 (by simp; omega)); clear h1 h2
      obtain ⟨s4, hs4⟩ : ∃ s, pS4 sk = s := ⟨_, rfl⟩
      rw [hs4] at Rx hpart
      have HP := Lib.hid hpart
      have hM16 : M ≤ 16 := by omega
      obtain ⟨mx, hmx2⟩ : ∃ m, w10.heap.size = m := ⟨_, rfl⟩
      rw [hmx2] at Lx hmx hpx hwr ⊢
      clear hpart hs4 hM hcx hmx2
      go_wp2_with fail
      go_loopw [24] (fun i wi => ∃ j : Nat, j ≤ M ∧ i = .int .i64 j ∧ (∃ pv, wi.ownsRow (mx + 1) 24 32 pv j (pathCells (rdPath j s4).1) ∧ Blk wi mx [.int .i64 xi, .string xk, .string xv, pv] 46) ∧ IsR wi p (rdPath j s4).2 ∧ wr.grownBy wi (some p)) (fun i _ => M - (intOf i).toNat)
      case atStart => exact ⟨0, Nat.zero_le _, rfl, ⟨_, World.ownsRow_nil _ _ _ _, Lx.out⟩, Rx.out, Gx.out⟩
      case round =>
        obtain ⟨j, hj, rfl, ⟨pv, ho2, hl2⟩, hr2, hg2⟩ := hrel
        obtain ⟨pa, pn, pc, rfl⟩ := own_shape ho2
        have O2 := Lib.hid ho2; have L2 := Lib.hid hl2; have R2 := Lib.hid hr2; have G2 := Lib.hid hg2; clear ho2 hl2 hr2 hg2
        have hb2 : mx + 1 ≤ wr.heap.size := L2.out.lt
        by_cases hlt3 : j < M
        · have c3 := L2.out.row 3 _ rfl; rw [Nat.zero_add] at c3
          have f3 := L2.out.frozen 3
          obtain ⟨x, hx⟩ : ∃ x, (rdHash (rdPath j s4).2).1 = x := ⟨_, rfl⟩
          have Hx32 : x.length = 32 := hx ▸ rdHash_len _
          obtain ⟨s5, hs5⟩ : ∃ s, (rdHash (rdPath j s4).2).2 = s := ⟨_, rfl⟩
          have C := RHash p (rdPath j s4).2 wr.drew (show IsR wr.drew p _ from R2.out)
          rw [hx, hs5] at C
          have C := Lib.hid C
          have Hx := Lib.hid hx; have Hs5 := Lib.hid hs5
          have hbs := fold_hash x Hx32
          have hxl : (Lib.byteCells x).length = 32 := by rw [Lib.byteCells_length]; exact Hx32
          have hx1 := oneCell_bytes x
          clear hx hs5
          go_upto_region 8 with (fail)
          go_region_law ((first | (refine step_wanted (by rfl) (wp_call 65 _ _ (by rfl) enters_rHash (by rfl) C.out ?_); rintro e w8 ⟨rfl, r8, g8⟩; refine ⟨_, rfl, ?_⟩; have c8 := g8.cell (a := ⟨mx, 3, none⟩) c3 (by simp; omega); have f8 := (frozen_grown g8 (a := ⟨mx, 3, none⟩) (by show mx < wr.heap.size; omega) (by simp; omega)).trans f3; have o8 := World.ownsRow.kept (show wr.drew.ownsRow _ _ _ _ _ _ from O2.out) g8 (own_ne O2.out (by omega)); have z8 : mx + 1 ≤ w8.heap.size := Nat.le_trans hb2 g8.size; have ca8 := fun o => (keep_alloc c8 f8 o).1) | (refine step_wanted (by rfl) (wp_app_new w8 _ _ 44 (by rfl) (mx + 1) 24 _ 32 32 Tryd.underlying44 hash_info3 (by rfl) _ j _ (by rfl) o8 (by rfl) (Lib.byteCells x) hxl hx1 (by omega) (by omega) z8 ?_); intro v' w10 o10 b10 _; obtain ⟨a10, n10, k10, rfl⟩ := own_shape o10; have c10 := (b10.cell (p := ⟨mx, 3, none⟩) (Nat.lt_succ_self _)).trans c8; have f10 := (b10.frozen (p := ⟨mx, 3, none⟩) (Nat.lt_succ_self _)).trans f8)))
          all_goals
            go_wp2
            have L9 := (L2.out.grown (undrew_grown g8) (by simp; omega))
            have L10 := (b10.block mx (Nat.lt_succ_self _)).trans L9
            refine ⟨⟨j + 1, by omega, by go_num, ⟨.slice a10 n10 k10, ?_, ?_⟩, ?_, ?_⟩, by simp [intOf]; omega⟩
            · rw [pathCells_snoc, Hx.out]; exact ownsRow_setCell_below o10 (by simp) _
            · have := heap_setCell_same L10 3 (.slice a10 n10 k10)
              unfold Blk
              simpa using this
            · rw [show (rdPath (j + 1) s4).2 = s5 from Hs5.out]
              exact (IsR.other (r8.below b10 (by omega)) hpx _)
            · exact grown_below (Lib.grownBy_trans G2.out (undrew_grown g8)) (((b10.mono (by omega)).setCell (by simp; omega) _))
        · obtain rfl : j = M := by omega
          have Lp := Lib.hid (Hl.out.grown G2.out (by simp; omega))
          have Op := Lib.hid (World.ownsRow.kept Ho.out G2.out (own_ne Ho.out (by omega)))
          have Pp := Lib.hid (Hpc.out.mono fun v l hv => PF.stays hv fun b hb hlt => G2.out.block b hlt (by simp; omega))
          have hvb : ∀ g, (Value.slice va vn vc).ownBlock = some g → g < mx + 1 := fun g hg => by have := (World.ownsRow.lt Ho.out g hg).2; omega
          have hml : pcs.length = k * 4 := Ho.out.1
          have c1 := Lp.out.row 1 _ rfl; rw [Nat.zero_add] at c1
          have hbw : mp + 1 ≤ wr.heap.size := by omega
          have hfl : flatCells [.agg ([.int .i64 xi, .string xk, .string xv, .slice pa pn pc] : List Value).toArray] = [.int .i64 xi, .string xk, .string xv, .slice pa pn pc] := by simp [flatCells, Value.cells]
          have hsz : ∀ u ∈ [Value.agg ([.int .i64 xi, .string xk, .string xv, .slice pa pn pc] : List Value).toArray], u.cells.size = 4 := by simp [Value.cells]
          have hsn : [Value.agg ([.int .i64 xi, .string xk, .string xv, .slice pa pn pc] : List Value).toArray].length * 4 ≤ 16777216 := by simp
          go_wp2_with (first | (refine wpList_load_part rfl 46 _ rfl mx 0 rfl [.int .i64 xi, .string xk, .string xv, .slice pa pn pc] _ L2.out.row Tryd.underlying46 rfl sizePart ?_) | (refine wpList_buildSlice_all rfl 39 1 _ rfl [.agg ([.int .i64 xi, .string xk, .string xv, .slice pa pn pc] : List Value).toArray] (by kernel_rfl) rfl [.int .i64 xi, .string xk, .string xv, .slice pa pn pc] hfl 46 _ 4 Tryd.underlying39 part_zs hsz hsn ?_))
          intro wb bb gb sb
          have Bb := Lib.hid bb; have Gb := Lib.hid gb
          have Lb := Lib.hid (Lp.out.grown gb (by simp)); have Ob := Lib.hid (World.ownsRow.kept Op.out gb (by cases hq : (Value.slice va vn vc).ownBlock <;> simp [hq]))
          have Pb := Lib.hid (Pp.out.mono fun v l hv => PF.stays hv fun b hb hlt => gb.block b hlt (by simp))
          have Nb := Lib.hid (PF_new (B := mp + 1) (own := (Value.slice va vn vc).ownBlock) (World.ownsRow.kept (show wr.ownsRow (mx + 1) 24 32 (.slice pa pn pc) (rdPath j s4).1.length (pathCells (rdPath j s4).1) by rw [rdPath_len]; exact O2.out) gb (by cases hq : (Value.slice pa pn pc).ownBlock <;> simp [hq])) (by omega) hvb)
          have hbw2 : mp + 1 ≤ wb.heap.size := Nat.le_trans hbw gb.size
          have hpb : p < wb.heap.size := by omega
          clear bb gb sb c1
          go_wp2_with (first | (refine wpList_app_blk rfl _ _ 39 rfl (mp + 1) 46 _ 4 64 Tryd.underlying39 part_info rfl _ k _ rfl Ob.out wr.heap.size rfl [.int .i64 xi, .string xk, .string xv, .slice pa pn pc] Bb.out.row rfl (by simp [Value.oneCell']) (by omega) (by omega) hbw2 ?_; intro v' wd od gd bd ed; obtain ⟨ad, nd, kd, rfl⟩ := own_shape od; have Ld := Lib.hid ((bd.block mp (Nat.lt_succ_self _)).trans Lb.out); have Od := Lib.hid od; have Gd := Lib.hid gd; have Bd := Lib.hid bd; have Ed := Lib.hid ed; clear od gd bd ed) | (refine wpList_store_cell rfl 39 _ _ rfl mp 1 rfl (.slice ad nd kd) rfl rfl [.int .i64 hh, .slice va vn vc] 41 Ld.out (by simp) one_parts ?_))
          intro we ge se be
          have Oe := World.ownsRow.kept Od.out ge (own_ne Od.out (by omega))
          have Pe := (Pb.out.mono fun v l hv => PF.app hv Gd.out Ed.out).mono fun v l hv => PF.stays hv fun b hb hlt => ge.block b hlt (by simp; omega)
          have Ne := PF.stays (PF.app Nb.out Gd.out Ed.out) fun b hb hlt => ge.block b hlt (by simp; omega)
          have Re := ((R2.out.grown Gb.out).below Bd.out (by omega)).grownAt ge hm
          have Ge := grown_new (grown_below (Lib.grownBy_trans Hg.out (Lib.grownBy_trans G2.out (grown_none Gb.out))) (Bd.out.mono (by omega))) ge hm0
          clear Bb Gb Lb Ob Pb Nb Ld Od Gd Bd Ed
          go_wp2_with fail
          refine ⟨⟨k + 1, by omega, by go_num, ⟨.slice ad nd kd, pcs ++ [.int .i64 xi, .string xk, .string xv, .slice pa pn pc], Oe, ?_, be⟩, ?_, Ge⟩, by simp [intOf]; omega⟩
          · have : (rdParts (k + 1) s2).1 = (rdParts k s2).1 ++ [(rdPart sk).1] := by rw [← Hsk.out]; rfl
            rw [this, HP.out]
            exact Pe.snoc (p := ⟨xi, xk, xv, (rdPath j s4).1⟩) Ne
          · have : (rdParts (k + 1) s2).2 = (rdPart sk).2 := by rw [← Hsk.out]; rfl
            rw [this, HP.out]; exact Re
    · obtain rfl : k = N := by omega
      have RB := Lib.hid (B1.out.grown Hg.out (by simp; omega))
      go_wp2_with (first | (refine wpList_load_part rfl 41 _ rfl mp 0 rfl [.int .i64 hh, .slice va vn vc] _ Hl.out.row Tryd.underlying41 rfl sizeProof ?_) | (refine wpList_store_whole rfl 41 _ _ rfl w.heap.size rfl [.int .i64 hh, .slice va vn vc] ZProof 41 rfl RB.out rfl (by simp [Value.oneCell']) sizeProof ?_))
      intro w20 g20 s20 b20
      have B20 := Lib.hid b20; have G20 := Lib.hid g20; clear b20 g20 s20
      go_wp2_with fail
      refine bodyPost_ret (results_cell_one rfl _ _ ⟨w.heap.size, 0, none⟩ _ rfl (run_loadVar_part _ _ _ 41 [.int .i64 hh, .slice va vn vc] _ B20.out.row Tryd.underlying41 rfl sizeProof)) rfl ?_
      rw [Hs1.out, Hd.out]
      refine ⟨_, rfl, ⟨.slice va vn vc, pcs, ?_, ?_, rfl⟩, Hr.out.grownAt G20.out hlt, grown_new (Lib.grownBy_trans (grown_none G1.out) Hg.out) G20.out (Nat.le_refl _)⟩
      · show World.ownsRow _ _ _ _ _ (rdParts k s2).1.length _
        rw [rdParts_len]
        exact own_mono (World.ownsRow.kept Ho.out G20.out (own_ne Ho.out (by omega))) (by omega)
      · exact Hpc.out.mono fun v l hv => PF.mono (PF.stays hv fun b hb hlt => G20.out.block b hlt (by simp; omega)) (by omega)

end Go.Proofs.YtaffpgafbjhahaaDoor
