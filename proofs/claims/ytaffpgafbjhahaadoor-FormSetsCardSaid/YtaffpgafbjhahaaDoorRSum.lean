/- Walk of the document's digest. -/
import Derived.Test.YtaffpgafbjhahaaDoorRBlk
import Derived.Test.YtaffpgafbjhahaaDoorBkW
namespace Go.Proofs.YtaffpgafbjhahaaDoor
open Go.RowKit
set_option maxRecDepth 100000

/-- the document's digest under way: what is taken, H -/
def SumSt (l : List UInt8) (X : List Nat) (p : Nat) : Prop :=
  (p < l.length ∧ ∃ f, l.length - p < f ∧ outL (hashL f X p (l.drop p)) = blake l) ∨ (0 < p ∧ l.length ≤ p ∧ p ≤ l.length + 63 ∧ outL X = blake l)
theorem SumSt.start (l : List UInt8) (h : 0 < l.length) : SumSt l startL 0 := Or.inl ⟨h, l.length + 1, by omega, by rw [List.drop_zero]; rfl⟩
/-- a block of it, filled up -/
def partL (l : List UInt8) (p : Nat) : List UInt8 := padL ((l.drop p).take 64)
theorem partL_len (l : List UInt8) (p : Nat) : (partL l p).length = 64 := by
  unfold partL padL
  rw [List.length_append, List.length_replicate, List.length_take]; omega
theorem SumSt.next {l : List UInt8} {X : List Nat} {p : Nat} (h : SumSt l X p) (hp : p < l.length) :
    SumSt l (blockL X (partL l p) (if l.length ≤ p + 64 then l.length else p + 64) (decide (l.length ≤ p + 64))) (p + 64) := by
  rcases h with ⟨_, f, hf, he⟩ | ⟨_, h2, _⟩
  · obtain ⟨g, rfl⟩ : ∃ g, f = g + 1 := ⟨f - 1, by omega⟩
    unfold hashL at he
    have hd : (l.drop p).length = l.length - p := List.length_drop
    by_cases hq : l.length ≤ p + 64
    · rw [if_neg (by omega)] at he
      refine Or.inr ⟨by omega, by omega, by omega, ?_⟩
      have e : partL l p = padL (l.drop p) := by unfold partL; rw [List.take_of_length_le (by omega)]
      rw [if_pos hq, e, decide_eq_true hq, ← he, hd, show p + (l.length - p) = l.length by omega]
    · rw [if_pos (by omega)] at he
      refine Or.inl ⟨by omega, g, by omega, ?_⟩
      have e : partL l p = (l.drop p).take 64 := by
        unfold partL padL
        rw [List.length_take, Nat.min_eq_left (by omega)]; simp
      rw [if_neg hq, e, decide_eq_false hq, ← he, List.drop_drop]
  · omega
def z64 : List Value := Lib.byteCells (List.replicate 64 0)
theorem copy_z (l : List UInt8) (p : Nat) : Lib.byteCells ((l.drop p).take 64) ++ z64.drop (Lib.byteCells ((l.drop p).take 64)).length = Lib.byteCells (partL l p) := by
  unfold partL padL z64
  rw [Lib.byteCells_append, Lib.byteCells_length]
  congr 1
  unfold Lib.byteCells
  rw [List.map_replicate, List.map_replicate, List.drop_replicate]

theorem start_of : rootsL.set 0 (gV rootsL 0 ^^^ 16842784) = startL := by kernel_rfl

theorem wR_row {w : World} {g : Nat} {V : List Nat} {R : List Value} {T : TypeId} (h : Blk w g (wCells V ++ R) T) : RowAt w g 0 (wCells V) :=
  RowAt.sub (xs := []) (zs := R) (by rw [List.nil_append]; exact h.row)
set_option maxHeartbeats 1600000 in
theorem rsum_ok (l : List UInt8) (g o c : Nat) (w : World) (h0 : 0 < l.length) (hc : l.length ≤ c) (hcm : c ≤ maxLen) (hr : RowAt w g o (Lib.byteCells l)) (hgl : g < w.heap.size) (hl : l.length < 4611686018427387904) :
    Calls Tryd.prog 135 #[.slice (some ⟨g, o, none⟩) l.length c] w fun e w' => e = .returned (.agg (Lib.byteCells (blake l)).toArray) ∧ w.grownBy w' none := by
  have hmk : ∀ w : World, (Instr.makeSlice 30 (.int .i64 64) (.int .i64 64)).run Tryd.prog w = .ok (.slice (some ⟨w.heap.size, 0, none⟩) 64 64) (w.alloc (.cells z64.toArray 5)) := fun _ => by kernel_rfl
  have HR := Lib.hid hr; have H0 := Lib.hid h0
  unfold maxLen at hcm
  clear hr h0
  go_enter Tryd.func135, Tryd.ntmps135
  go_wp2_with (refine wpList_alloc_as rfl 24 rfl ZH ZH_info ?_)
  intro w1 k1 k2 k3
  obtain ⟨ob, hob⟩ : ∃ m, w.heap.size = m := ⟨_, rfl⟩
  rw [hob] at k1 k3 ⊢
  have Hob := Lib.hid hob
  have O1 := Lib.hid k1; have B1 := Lib.hid (below_of_grown k2); have S1 := Lib.hid (show ob + 1 ≤ w1.heap.size by omega)
  rw [hob] at hgl
  clear k1 k2 k3 hob
  go_wp2_with fail
  go_loopw [3, 4] (fun v i wx => ∃ j : Nat, j ≤ 8 ∧ i = .int .i64 j ∧ OwnW (ob + 1) v (rootsL.take j) wx ∧ Below w.heap.size w wx ∧ Blk wx ob ZH 24 ∧ ob + 1 ≤ wx.heap.size) (fun _ i _ => 8 - (intOf i).toNat)
  case atStart => exact ⟨0, Nat.zero_le _, rfl, OwnW.nil _ _, B1.out, O1.out, S1.out⟩
  case round =>
    obtain ⟨j, hj, rfl, hv, hb, ho, hz⟩ := hrel
    have Hv := Lib.hid hv; have Hb := Lib.hid hb; have Ho := Lib.hid ho; have Hz := Lib.hid hz; clear hv hb ho hz
    by_cases hlt : j < 8
    · have hji : (j : Int) < 8 := by omega
      go_wp2_with fail
      refine (root_ok j _ hlt).mono ?_
      rintro e w3 ⟨rfl, g3⟩
      have O3 := Lib.hid (Hv.out.keptO g3); have B3 := Lib.hid (Hb.out.trans ((below_of_grown g3).mono Hb.out.size)); have M3 := Lib.hid (Ho.out.grown g3 (by simp)); have Z3 := Lib.hid (Nat.le_trans Hz.out g3.size)
      clear g3
      go_wp2_with (first | (refine wpList_appw_one rfl _ _ rfl rfl O3.out (gV rootsL j) rfl rfl (by rw [List.length_take]; have : rootsL.length = 8 := rfl; omega) Z3.out ?_; intro v4 w4 o4 b4))
      refine ⟨⟨j + 1, by omega, by go_num, ?_, B3.out.trans (b4.mono (by have := Hob.out; omega)), M3.out.below b4 (by omega), Nat.le_trans Z3.out b4.size⟩, by simp [intOf]; omega⟩
      rw [roots_snoc j hlt]; exact o4
    · obtain rfl : j = 8 := by omega
      have hv := Hv.out
      rw [List.take_of_length_le (by decide)] at hv
      obtain ⟨vg, vc, vR, rfl, hvb, vB, hvc, hvm⟩ := hv.blk (by decide)
      have lR : rootsL.length = 8 := rfl
      rw [lR] at hvc ⊢
      have V7 := Lib.hid vB
      have M7 := Lib.hid Ho.out; have B7 := Lib.hid Hb.out
      have c0 := wR_at vB 0 (by decide)
      have ex := u32_xor_nat (gV rootsL 0) 16842784 (rootsL_ws.get 0) (by omega)
      have Hvc := Lib.hid hvc; have Hvm := Lib.hid hvm; have Hvb := Lib.hid hvb
      clear hv vB hvc hvm Hv Hb Ho Hz O1 B1 S1 hj lR hvb
      go_wp2_with (first | (refine wpList_store_cell rfl 198 _ _ rfl vg 0 rfl (.int .u32 ((gV rootsL 0 ^^^ 16842784 : Nat) : Int)) (by first | rfl | exact congrArg (Value.int .u32) ex) rfl (wCells rootsL ++ vR) 198 V7.out (wR_len _ _ _ (by decide)) (by kernel_rfl) ?_))
      intro w7 g5 s5 b5
      rw [wR_set _ _ _ _ (by decide), start_of] at b5
      have O8 := Lib.hid (OwnW.of_blk (V := startL) Hvb.out b5 Hvc.out Hvm.out)
      have M8 := Lib.hid (M7.out.grown g5 (by have := Hvb.out; simp; omega)); have B8 := Lib.hid (below_row B7.out g5 (by have := Hvb.out; have := Hob.out; omega) V7.out.lt)
      have Z8 := Lib.hid (show ob + 1 ≤ w7.heap.size by have := Hvb.out; have := b5.lt; omega)
      clear g5 s5 b5 V7 M7 B7 c0 ex
      go_wp2_with fail
      go_loopw [3, 5] (fun h i wr => ∃ (p : Nat) (X : List Nat), i = .int .i64 p ∧ OwnW (ob + 1) h X wr ∧ X.length = 8 ∧ Ws X ∧ Below w.heap.size w wr ∧ Blk wr ob ZH 24 ∧ ob + 1 ≤ wr.heap.size ∧ SumSt l X p) (fun _ i _ => l.length + 64 - (intOf i).toNat)
      case atStart => exact ⟨0, startL, rfl, O8.out, rfl, startL_ws, B8.out, M8.out, Z8.out, SumSt.start l H0.out⟩
      case round =>
        obtain ⟨p, X, rfl, hX, lX, xX, hb, ho, hz, hst⟩ := hrel
        obtain ⟨xg, xc, xR, rfl, hxb, xB, hxc, hxm⟩ := hX.blk (by omega)
        rw [lX] at hxc ⊢
        have XB := Lib.hid xB; have Hb := Lib.hid hb; have Ho := Lib.hid ho; have Hz := Lib.hid hz; have Hst := Lib.hid hst; have Hxb := Lib.hid hxb
        clear hX xB hb ho hz hst hxb hxc hxm O8 M8 B8 Z8
        by_cases hp : p < l.length
        · have hE : ∃ E : Nat, (if l.length ≤ p + 64 then l.length else p + 64) = E := ⟨_, rfl⟩
          obtain ⟨E, hE⟩ := hE
          have hE1 : p < E := by split at hE <;> omega
          have hE2 : E ≤ l.length := by split at hE <;> omega
          have hE3 : E ≤ p + 64 := by split at hE <;> omega
          have HE := Lib.hid hE
          have wp : IntKind.i64.wrap ((p : Int) + 64) = (p : Int) + 64 := by simp [IntKind.wrap, IntKind.bits, IntKind.signed]; omega
          clear hE
          go_upto_region 8 with (fail)
          go_cut [32] from 25 to 32 (fun s32 w' => s32 = .bool true ∧ wr = w')
          case first =>
            by_cases hp0 : p = 0
            · subst hp0
              go_wp2_with fail
              go_meet
              case rel => exact ⟨rfl, rfl⟩
            · have d1 : ((p : Int) == 0) = false := by simp; omega
              have d2 : decide ((p : Int) < (l.length : Int)) = true := by simp; omega
              have d3 : decide (p < l.length) = true := by simp; omega
              have d4 : (p == 0) = false := by simp; omega
              go_wp2_with fail
              go_meet
              case rel => exact ⟨rfl, rfl⟩
          case rest =>
            obtain ⟨rfl, rfl⟩ := hcut
            have F0 := Blk.new wr z64 5
            have FG := World.grownBy_alloc wr (.cells z64.toArray 5) none
            go_upto_region 12 with (fail)
            generalize wr.alloc (.cells z64.toArray 5) = wf at F0 FG ⊢
            have XF := Lib.hid (XB.out.grown FG (by simp)); have OF := Lib.hid (Ho.out.grown FG (by simp)); have BF := Lib.hid (Hb.out.trans ((below_of_grown FG).mono Hb.out.size)); have ZF := Lib.hid (Nat.le_trans Hz.out FG.size); have F0 := Lib.hid F0
            have hfz : ob + 1 ≤ wr.heap.size := Hz.out
            have hxf : xg < wr.heap.size := XB.out.lt
            obtain ⟨fb, hfb⟩ : ∃ n, wr.heap.size = n := ⟨_, rfl⟩
            rw [hfb] at F0 hfz hxf ⊢
            clear hfb FG XB Hb Ho Hz
            go_upto_if 41 with (fail)
            go_cut [7] from 42 to 43 (fun s7 w' => s7 = .int .i64 E ∧ wf = w')
            case first =>
              by_cases hq : l.length ≤ p + 64
              · have hEe := HE.out
                rw [if_pos hq] at hEe
                have hqi : (l.length : Int) ≤ (p : Int) + 64 := by omega
                have He := Lib.hid hEe; clear hEe
                go_wp2_with fail
                go_meet
                case rel => exact ⟨by rw [He.out], rfl⟩
              · have hEe := HE.out
                rw [if_neg hq] at hEe
                have d1 : decide ((l.length : Int) ≤ (p : Int) + 64) = false := by simp; omega
                have He := Lib.hid hEe; clear hEe
                go_wp2_with fail
                go_meet
                case rel => exact ⟨by rw [← He.out]; go_num, rfl⟩
            case rest =>
              obtain ⟨rfl, rfl⟩ := hcut
              have hpE : (p : Int) ≤ (E : Int) := by omega
              have hEl : (E : Int) ≤ (l.length : Int) := by omega
              have hEc : (E : Int) ≤ (c : Int) := by omega
              have hsub : ((E : Int) - (p : Int)).toNat = E - p := by omega
              have hcl : ((l.drop p).take 64).length = E - p := by
                have := HE.out
                rw [List.length_take, List.length_drop]
                split at this <;> omega
              have hrow : RowAt wf g (o + p) (Lib.byteCells ((l.drop p).take 64)) := by
                have h1 := ((HR.out.below BF.out (by have := Hob.out; omega)).part p 64)
                rwa [show (((Lib.byteCells l).drop p).take 64) = Lib.byteCells ((l.drop p).take 64) by simp [Lib.byteCells, List.map_take, List.map_drop]] at h1
              have Hcl := Lib.hid hcl; have Hrow := Lib.hid hrow
              clear hcl hrow
              go_wp2_with (first | (refine wpList_copy_part rfl _ _ 30 30 rfl 5 Tryd.underlying30 (by kernel_rfl) fb 0 64 64 g (o + p) (E - p) (c - p) rfl rfl z64 (Lib.byteCells ((l.drop p).take 64)) 5 F0.out ?_ Hrow.out ?_ (Lib.byteCells_one _) ?_))
              · rw [Lib.byteCells_length, Hcl.out]; exact (Nat.min_eq_left (by omega)).symm
              · rw [Lib.byteCells_length, Hcl.out]; have : z64.length = 64 := rfl; omega
              intro w9 g9 s9 b9
              have F9 := Lib.hid (show Blk w9 fb (Lib.byteCells (partL l p)) 5 by rw [← copy_z]; simpa using b9); have X9 := Lib.hid (XF.out.grown g9 (by simp; omega)); have O9 := Lib.hid (OF.out.grown g9 (by simp; omega)); have B9 := Lib.hid (below_row BF.out g9 (by have := Hob.out; omega) F0.out.lt); have Z9 := Lib.hid (Nat.le_trans ZF.out g9.size)
              clear g9 s9 b9 F0 XF OF BF ZF Hrow Hcl
              have wE : IntKind.u64.wrap (E : Int) = (E : Int) := by simp [IntKind.wrap, IntKind.bits, IntKind.signed]; omega
              have C := fun last => rblock_ok X (partL l p) xg 0 xc fb 0 64 E last w9 lX xX (partL_len l p) (by omega) (wR_row X9.out) X9.out.lt F9.out.row F9.out.lt
              have C := Lib.hid C
              have hb : ((E : Int) == (l.length : Int)) = decide (l.length ≤ p + 64) := by
                have := HE.out
                split at this
                · rename_i h; rw [decide_eq_true h]; simp; omega
                · rename_i h; rw [decide_eq_false h]; simp; omega
              have Hb9 := Lib.hid hb
              have hE6 : E < 18446744073709551616 := by omega
              have hnx := Hst.out.next hp
              rw [HE.out] at hnx
              have Hnx := Lib.hid hnx
              clear hb hnx
              go_wp2_with fail
              rw [Hb9.out]
              refine (C.out _).mono ?_
              rintro e w10 ⟨v, rfl, o10, b10⟩
              have B10 := Lib.hid (B9.out.trans (b10.mono (B9.out.size))); have O10 := Lib.hid (O9.out.below b10 (by have := Z9.out; omega)); have Z10 := Lib.hid (Nat.le_trans Z9.out b10.size); have V10 := Lib.hid (o10.mono Z9.out)
              clear o10 b10 F9 X9 O9 B9 Z9 C
              go_wp2
              exact ⟨⟨p + 64, _, by go_num, V10.out, blockL_len _ _ _ _, blockL_ws xX _ _ hE6 _, B10.out, O10.out, Z10.out, Hnx.out⟩, by simp [intOf]; omega⟩
        · have d1 : ((p : Int) == 0) = false := by simp; have := H0.out; omega
          have d2 : decide ((p : Int) < (l.length : Int)) = false := by simp; omega
          have hres : outL X = blake l := by
            rcases Hst.out with ⟨h, _⟩ | ⟨_, _, _, h⟩
            · omega
            · exact h
          have d4 : (p == 0) = false := by simp; have := H0.out; omega
          have d5 : decide (p < l.length) = false := by simp; omega
          have Hres := Lib.hid hres
          clear hres hlt
          go_upto_region 16 with (fail)
          go_wp2_with (refine wpList_alloc_as rfl 24 rfl ZH ZH_info ?_)
          intro w7 k1 k2 k3
          have O7 := Lib.hid (Ho.out.grown k2 (by simp)); have X7 := Lib.hid (XB.out.grown k2 (by simp)); have B7 := Lib.hid (Hb.out.trans ((below_of_grown k2).mono Hb.out.size))
          have hlt6 := XB.out.lt
          have hz6 := Hz.out
          obtain ⟨hb2, hxb2⟩ : ∃ m, wr.heap.size = m := ⟨_, rfl⟩
          rw [hxb2] at k1 hlt6 hz6 ⊢
          have L7 := Lib.hid k1
          clear k1 k2 k3 hxb2 XB Ho Hb Hz d1 d2 d4 d5
          go_wp2_with fail
          go_loopw [9] (fun i wr => ∃ j : Nat, j ≤ 32 ∧ i = .int .i64 j ∧ Blk wr hb2 (Lib.byteCells ((outL X).take j ++ List.replicate (32 - j) 0)) 24 ∧ w7.grownBy wr (some hb2)) (fun i _ => 32 - (intOf i).toNat)
          case atStart => exact ⟨0, Nat.zero_le _, rfl, L7.out, ⟨rfl, rfl, rfl, Nat.le_refl _, fun _ _ _ => rfl⟩⟩
          case round =>
            obtain ⟨j, hj, rfl, hl, hg⟩ := hrel
            have holen : (outL X).length = 32 := by simp [outL]
            by_cases hj32 : j < 32
            · have hji : (j : Int) < 32 := by omega
              obtain ⟨q, hq⟩ : ∃ q, j / 4 = q := ⟨_, rfl⟩
              have hqi : (q : Int) < 8 := by omega
              have eq4 : IntKind.i64.wrap ((j : Int) / 4) = (q : Int) := by simp [IntKind.wrap, IntKind.bits, IntKind.signed]; omega
              obtain ⟨r, hr⟩ : ∃ r, j % 4 = r := ⟨_, rfl⟩
              have er : ((j : Int)).tmod 4 = (r : Int) := by rw [Int.tmod_eq_emod_of_nonneg (by omega)]; omega
              obtain ⟨sf, hsf⟩ : ∃ s, r * 8 = s := ⟨_, rfl⟩
              have hsf32 : (sf : Int) ≤ 32 := by omega
              have es : IntKind.i64.wrap (8 * (r : Int)) = (sf : Int) := by simp [IntKind.wrap, IntKind.bits, IntKind.signed]; omega
              have es2 : 8 * (r : Int) = (sf : Int) := by omega
              have es3 : IntKind.u64.wrap (sf : Int) = (sf : Int) := by simp [IntKind.wrap, IntKind.bits, IntKind.signed]; omega
              obtain ⟨y, hy⟩ : ∃ y, gV X q / 2 ^ sf = y := ⟨_, rfl⟩
              have ey : (gV X q : Int) / 2 ^ sf = (y : Int) := by rw [← hy]; simp
              obtain ⟨z, hz⟩ : ∃ z, y % 256 = z := ⟨_, rfl⟩
              have ez : IntKind.u8.wrap (y : Int) = (z : Int) := by simp [IntKind.wrap, IntKind.bits, IntKind.signed]; omega
              have cx := wR_at (X7.out.grown hg (by simp; omega)) q (by omega)
              have hjl : j < (outL X).length := by rw [holen]; exact hj32
              have hout : ((outL X)[j]'hjl).toNat = z := by rw [outL_get X j hj32, hq, hr, hsf, hy, hz]
              have hlen : ((outL X).take j ++ List.replicate (32 - j) (0 : UInt8)).length = 32 := by rw [List.length_append, List.length_take, List.length_replicate]; omega
              have Hl := Lib.hid hl; have Hg := Lib.hid hg; have Ho := Lib.hid hout
              have Hl' := hl
              clear hl hg hout hq hr hsf hy hz
              go_wp2_with (first | (refine wpList_store_cell rfl 5 _ _ rfl hb2 j rfl (.int .u8 (z : Int)) rfl rfl (Lib.byteCells ((outL X).take j ++ List.replicate (32 - j) 0)) 24 Hl' (by rw [Lib.byteCells_length, hlen]; exact hj32) (by kernel_rfl) ?_))
              intro w8 g8 s8 b8
              have e : (Lib.byteCells ((outL X).take j ++ List.replicate (32 - j) 0)).set j (.int .u8 (z : Int)) = Lib.byteCells ((outL X).take (j + 1) ++ List.replicate (32 - (j + 1)) 0) := by
                rw [← Ho.out]
                have h1 : (Lib.byteCells ((outL X).take j ++ List.replicate (32 - j) 0)).set j (.int .u8 (((outL X)[j]'hjl).toNat : Int)) = Lib.byteCells (((outL X).take j ++ List.replicate (32 - j) 0).set j ((outL X)[j]'hjl)) := by simp [Lib.byteCells, List.map_set]
                rw [h1, List.set_append_right _ _ (by rw [List.length_take]; omega), List.length_take, Nat.min_eq_left (by omega), Nat.sub_self, List.take_succ_eq_append_getElem hjl, show 32 - j = (32 - (j + 1)) + 1 by omega, List.replicate_succ, List.set_cons_zero, List.append_assoc]
                rfl
              rw [e] at b8
              have B8 := Lib.hid b8; have G8 := Lib.hid (Lib.grownBy_trans Hg.out g8)
              clear b8 g8 s8 e Hl'
              go_wp2
              exact ⟨⟨j + 1, by omega, by go_num, B8.out, G8.out⟩, by simp [intOf]; omega⟩
            · have ej : j = 32 := by omega
              rw [ej, List.take_of_length_le (by omega), Nat.sub_self, List.replicate_zero, List.append_nil] at hl
              have Hl := Lib.hid hl; have O8 := Lib.hid (O7.out.grown hg (by simp; omega)); have B8 := Lib.hid (below_row B7.out hg (by have := Hob.out; omega) L7.out.lt)
              have hxl : (Lib.byteCells (outL X)).length = 32 := by rw [Lib.byteCells_length]; exact holen
              clear hl hg O7 X7 B7
              go_wp2_with (first | (refine wpList_load_part rfl 24 _ rfl hb2 0 rfl (Lib.byteCells (outL X)) _ Hl.out.row Tryd.underlying24 rfl (sizeH _ hxl) ?_) | (refine wpList_store_whole rfl 24 _ _ rfl ob rfl (Lib.byteCells (outL X)) ZH 24 rfl O8.out (by rw [hxl]; rfl) (Lib.byteCells_one _) (sizeH _ hxl) ?_))
              intro w9 g9 s9 b9
              have B9 := Lib.hid b9; have G9 := Lib.hid (below_grown (below_row B8.out g9 (by have := Hob.out; omega) O8.out.lt))
              clear b9 g9 s9
              go_wp2
              refine bodyPost_ret (results_cell_one rfl _ _ ⟨ob, 0, none⟩ _ rfl (run_loadVar_part _ _ _ 24 (Lib.byteCells (outL X)) _ B9.out.row Tryd.underlying24 rfl (sizeH _ hxl))) rfl ?_
              rw [Hres.out]
              exact ⟨rfl, G9.out⟩

end Go.Proofs.YtaffpgafbjhahaaDoor
