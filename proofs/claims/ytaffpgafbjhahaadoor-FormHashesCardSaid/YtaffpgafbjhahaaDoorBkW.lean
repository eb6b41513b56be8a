/- Walk of a digest's Write. Walks of a digest's New and Sum. Walk of the digest of a tag and parts. -/
import Derived.Test.YtaffpgafbjhahaaDoorBk4
import Derived.Test.YtaffpgafbjhahaaDoorAlive6
import Derived.Test.YtaffpgafbjhahaaDoorReadH
import Derived.Test.YtaffpgafbjhahaaDoorPrf4
namespace Go.Proofs.YtaffpgafbjhahaaDoor
open Go.RowKit
set_option maxRecDepth 100000

/-- block p is a digest under way -/
def IsB (w : World) (p : Nat) (s : BkS) : Prop :=
  ∃ tail, Blk w p (sCells s.H (s.buf ++ tail) s.buf.length s.done) 205 ∧ s.buf.length + tail.length = 64 ∧ s.H.length = 8 ∧ Ws s.H
def BkS.size (s : BkS) : Nat := s.done + s.buf.length
theorem BkS.put_size (s : BkS) (c : UInt8) (h : s.buf.length ≤ 64) : (s.put c).size = s.size + 1 ∧ (s.put c).buf.length ≤ 64 := by
  unfold BkS.put BkS.size
  split
  · simp; omega
  · simp; omega
theorem BkS.puts_size : ∀ (l : List UInt8) (s : BkS), s.buf.length ≤ 64 → (s.puts l).size = s.size + l.length ∧ (s.puts l).buf.length ≤ 64
  | [], s, h => ⟨rfl, h⟩
  | c :: l, s, h => by
    obtain ⟨h1, h2⟩ := s.put_size c h
    obtain ⟨h3, h4⟩ := BkS.puts_size l (s.put c) h2
    rw [BkS.puts_cons]
    refine ⟨?_, h4⟩
    rw [h3, h1, List.length_cons]; omega

theorem sCells_setB (H : List Nat) (B : List UInt8) (n done k : Nat) (c : UInt8) (hl : H.length = 8) (hk : k < B.length) : (sCells H B n done).set (8 + k) (.int .u8 (c.toNat : Int)) = sCells H (B.set k c) n done := by
  unfold sCells
  rw [List.append_assoc, List.set_append_right _ _ (by rw [wCells_length, hl]; omega), wCells_length, hl, Nat.add_sub_cancel_left, List.set_append_left _ _ (by rw [Lib.byteCells_length]; exact hk), List.append_assoc]
  congr 2
  simp [Lib.byteCells, List.map_set]
theorem sCells_setN (H : List Nat) (B : List UInt8) (n done m : Nat) (hl : H.length = 8) (hb : B.length = 64) : (sCells H B n done).set 72 (.int .i64 (m : Int)) = sCells H B m done := by
  unfold sCells
  have e : (wCells H ++ Lib.byteCells B).length = 72 := by rw [List.length_append, wCells_length, Lib.byteCells_length, hl, hb]
  rw [List.set_append_right _ _ (by rw [e]; exact Nat.le_refl _), e]; rfl
theorem sCells_setD (H : List Nat) (B : List UInt8) (n done m : Nat) (hl : H.length = 8) (hb : B.length = 64) : (sCells H B n done).set 73 (.int .u64 (m : Int)) = sCells H B n m := by
  unfold sCells
  have e : (wCells H ++ Lib.byteCells B).length = 72 := by rw [List.length_append, wCells_length, Lib.byteCells_length, hl, hb]
  rw [List.set_append_right _ _ (by rw [e]; omega), e]; rfl
theorem sCells_n {w : World} {p : Nat} {H : List Nat} {B : List UInt8} {n done : Nat} {T : TypeId} (h : Blk w p (sCells H B n done) T) (hl : H.length = 8) (hb : B.length = 64) : w.cell? ⟨p, 72, none⟩ = some (.int .i64 (n : Int)) := by
  have := h.row 72 (.int .i64 (n : Int)) (by
    unfold sCells
    rw [List.getElem?_append_right (by rw [List.length_append, wCells_length, Lib.byteCells_length, hl, hb]; omega), List.length_append, wCells_length, Lib.byteCells_length, hl, hb]; rfl)
  rwa [Nat.zero_add] at this

set_option maxHeartbeats 1600000 in
theorem Write_ok (s : BkS) (l : List UInt8) (p : Nat) (v : Value) (w : World) (h : IsB w p s) (hv : RdB w v l) (hne : ∀ g o n c, v = .slice (some ⟨g, o, none⟩) n c → g ≠ p)
    (hR : RowAt w 1 0 (wCells rootsL)) (hp : p ≠ 1) (hlen : s.size + l.length < 4611686018427387904) (hb : s.buf.length ≤ 64) :
    Calls Tryd.prog 146 #[.pointer (some ⟨p, 0, none⟩), v] w fun e w' => e = .returned (.tuple #[]) ∧ IsB w' p (s.puts l) ∧ w.grownBy w' (some p) := by
  obtain ⟨ao, cp, rfl, hc1, hc2, hv⟩ := hv
  have HB := Lib.hid h; have HV := Lib.hid hv; have HR := Lib.hid hR; have Hne := Lib.hid hne
  clear h hv hR hne
  go_enter Tryd.func146, Tryd.ntmps146
  go_wp2_with fail
  go_loopw [10] (fun i wr => ∃ j : Nat, j ≤ l.length ∧ i = .int .i64 j ∧ IsB wr p (s.puts (l.take j)) ∧ w.grownBy wr (some p)) (fun i _ => l.length - (intOf i).toNat)
  case atStart => exact ⟨0, Nat.zero_le _, rfl, HB.out, ⟨rfl, rfl, rfl, Nat.le_refl _, fun _ _ _ => rfl⟩⟩
  case round =>
    obtain ⟨j, hj, rfl, hs, hg⟩ := hrel
    by_cases hjl : j < l.length
    · have hji : (j : Int) < (l.length : Int) := by omega
      obtain ⟨g, o, rfl, hgl, hrow⟩ : ∃ g o, ao = some ⟨g, o, none⟩ ∧ g < w.heap.size ∧ RowAt w g o (Lib.byteCells l) := by
        rcases HV.out with ⟨_, h2, _⟩ | h
        · rw [h2] at hjl; simp at hjl
        · exact h
      have hgp : g ≠ p := Hne.out g o _ _ rfl
      obtain ⟨c, hc⟩ : ∃ c, l[j] = c := ⟨_, rfl⟩
      have hcell : wr.cell? ⟨g, o + j, none⟩ = some (.int .u8 (c.toNat : Int)) := by
        rw [← hc]; exact hg.cell (hrow j _ (byteCells_get l j hjl)) (by simpa using hgp)
      obtain ⟨st, hst⟩ : ∃ st, s.puts (l.take j) = st := ⟨_, rfl⟩
      have hnext : s.puts (l.take (j + 1)) = st.put c := by
        rw [List.take_succ_eq_append_getElem hjl, BkS.puts_snoc, hst, hc]
      have hsz := BkS.puts_size (l.take j) s hb
      rw [hst, List.length_take, Nat.min_eq_left hj] at hsz
      rw [hst] at hs
      obtain ⟨tail, hblk, htl, hH, hW⟩ := hs
      have hn := sCells_n hblk hH (by rw [List.length_append]; exact htl)
      have HS := Lib.hid hblk; have HG := Lib.hid hg; have HN := Lib.hid hnext
      clear hblk hg hnext hst hrow hc HV
      obtain ⟨H, buf, done⟩ := st
      simp only [BkS.size] at hsz hlen
      dsimp only at hn htl hH hW HS
      by_cases hfull : buf.length = 64
      · have hfi : (buf.length : Int) = 64 := by omega
        have ht0 : tail = [] := List.eq_nil_of_length_eq_zero (by omega)
        subst ht0
        rw [List.append_nil] at HS
        rw [hfull] at HS
        rw [hfi] at hn
        have cd := sCells_done HS.out hH hfull
        obtain ⟨d2, hd2⟩ : ∃ x, done + 64 = x := ⟨_, rfl⟩
        have hd2i : (done : Int) + 64 = (d2 : Int) := by omega
        have hdw : IntKind.u64.wrap (d2 : Int) = (d2 : Int) := by simp [IntKind.wrap, IntKind.bits, IntKind.signed]; omega
        have hd3 : d2 < 18446744073709551616 := by omega
        have HS' := HS.out
        go_wp2_with (first | (refine wpList_store_cell rfl 25 _ _ rfl p 73 rfl (.int .u64 (d2 : Int)) rfl rfl (sCells H buf 64 done) 205 HS' (by rw [sCells_length, hH, hfull]; omega) (by kernel_rfl) ?_))
        intro w2 g2 s2 b2
        rw [sCells_setD _ _ _ _ _ hH hfull] at b2
        have B2 := Lib.hid b2; have G2 := Lib.hid (Lib.grownBy_trans HG.out g2); have Hd2 := Lib.hid hd2
        clear b2 g2 s2 cd hd2 hd2i hdw HS' hn hcell
        go_wp2_with fail
        refine (block_ok H buf 64 d2 p false w2 B2.out hH hW hfull hd3 (HR.out.grown G2.out (by simp; omega)) hp).mono ?_
        rintro e w3 ⟨rfl, b3, g3⟩
        have B3 := Lib.hid b3; have G3 := Lib.hid (Lib.grownBy_trans G2.out g3)
        have hX : (blockL H buf d2 false).length = 8 := blockL_len _ _ _ _
        have hXw : Ws (blockL H buf d2 false) := blockL_ws hW _ _ hd3 _
        obtain ⟨X, hXe⟩ : ∃ X, blockL H buf d2 false = X := ⟨_, rfl⟩
        rw [hXe] at hX hXw B3
        have HX := Lib.hid hXe
        clear b3 g3 hXe B2 G2
        have HS' := B3.out
        go_wp2_with (first | (refine wpList_store_cell rfl 3 _ _ rfl p 72 rfl (.int .i64 ((0 : Nat) : Int)) rfl rfl (sCells X buf 64 d2) 205 HS' (by rw [sCells_length, hX, hfull]; omega) (by kernel_rfl) ?_))
        intro w4 g4 s4 b4
        replace b4 : Blk w4 p (sCells X buf 0 d2) 205 := by rw [← sCells_setN X buf 64 d2 0 hX hfull]; exact b4
        have hn := sCells_n b4 hX hfull
        have hn' : w4.cell? ⟨p, 72, none⟩ = some (.int .i64 0) := hn
        have B4 := Lib.hid b4; have G4 := Lib.hid (Lib.grownBy_trans G3.out g4)
        clear b4 g4 s4 HS' B3 G3 hn
        go_wp2_with fail
        go_still_tail 9, (by kernel_rfl)
        refine wpList_store_cell rfl 5 _ _ rfl p (8 + 0) rfl (.int .u8 (c.toNat : Int)) rfl rfl (sCells X buf 0 d2) 205 (show Blk w4.drew _ _ _ from B4.out) (by rw [sCells_length, hX, hfull]; omega) (by kernel_rfl) ?_
        intro w5 g5 s5 b5
        rw [sCells_setB _ _ _ _ 0 c hX (by omega)] at b5
        have hfs : (buf.set 0 c).length = 64 := by rw [List.length_set]; exact hfull
        have hn : w5.cell? ⟨p, 72, none⟩ = some (.int .i64 0) := sCells_n b5 hX hfs
        have HS' := b5
        have G5 := Lib.hid (Lib.grownBy_trans G4.out (undrew_grown g5))
        clear b5 g5 s5 hn' B4 G4
        go_wp2_with (first | (refine wpList_store_cell rfl 3 _ _ rfl p 72 rfl (.int .i64 ((1 : Nat) : Int)) rfl rfl (sCells X (buf.set 0 c) 0 d2) 205 HS' (by rw [sCells_length, hX, hfs]; omega) (by kernel_rfl) ?_))
        intro w6 g6 s6 b6
        replace b6 : Blk w6 p (sCells X (buf.set 0 c) 1 d2) 205 := by rw [← sCells_setN X (buf.set 0 c) 0 d2 1 hX hfs]; exact b6
        have B6 := Lib.hid b6; have G6 := Lib.hid (Lib.grownBy_trans G5.out g6)
        clear b6 g6 s6 HS' G5 hn
        go_wp2
        refine ⟨⟨j + 1, by omega, by go_num, ?_, G6.out⟩, by simp [intOf]; omega⟩
        have e : (BkS.mk H buf done).put c = ⟨X, [c], d2⟩ := by unfold BkS.put; rw [if_pos hfull, HX.out.symm, Hd2.out.symm]
        rw [HN.out, e]
        have e2 : buf.set 0 c = [c] ++ buf.drop 1 := by cases buf with
          | nil => simp at hfull
          | cons x t => rfl
        exact ⟨buf.drop 1, by rw [← e2]; exact B6.out, by simp [hfull], hX, hXw⟩
      · have hfi : (buf.length : Int) < 64 := by omega
        have hfn : ((buf.length : Int) == 64) = false := by simp; omega
        have hlb : (buf ++ tail).length = 64 := by rw [List.length_append]; exact htl
        obtain ⟨n, hnn⟩ : ∃ n, buf.length = n := ⟨_, rfl⟩
        rw [hnn] at hfi hfn hn HS
        have HNn := Lib.hid hnn; clear hnn
        go_wp2_with fail
        go_still_tail 9, (by kernel_rfl)
        refine wpList_store_cell rfl 5 _ _ rfl p (8 + n) rfl (.int .u8 (c.toNat : Int)) rfl rfl (sCells H (buf ++ tail) n done) 205 (show Blk wr.drew _ _ _ from HS.out) (by rw [sCells_length, hH, hlb]; omega) (by kernel_rfl) ?_
        intro w5 g5 s5 b5
        rw [sCells_setB _ _ _ _ n c hH (by omega)] at b5
        have hfs : ((buf ++ tail).set n c).length = 64 := by rw [List.length_set]; exact hlb
        have hn5 := sCells_n b5 hH hfs
        have HS' := b5
        have G5 := Lib.hid (Lib.grownBy_trans HG.out (undrew_grown g5))
        obtain ⟨n1, hn1⟩ : ∃ x, n + 1 = x := ⟨_, rfl⟩
        have hn1i : (n : Int) + 1 = (n1 : Int) := by omega
        have hnw : IntKind.i64.wrap (n1 : Int) = (n1 : Int) := by simp [IntKind.wrap, IntKind.bits, IntKind.signed]; omega
        clear b5 g5 s5 hn hcell
        go_wp2_with (first | (refine wpList_store_cell rfl 3 _ _ rfl p 72 rfl (.int .i64 (n1 : Int)) rfl rfl (sCells H ((buf ++ tail).set n c) n done) 205 HS' (by rw [sCells_length, hH, hfs]; omega) (by kernel_rfl) ?_))
        intro w6 g6 s6 b6
        rw [sCells_setN _ _ _ _ _ hH hfs] at b6
        have B6 := Lib.hid b6; have G6 := Lib.hid (Lib.grownBy_trans G5.out g6)
        clear b6 g6 s6 HS' G5 hn5
        go_wp2
        refine ⟨⟨j + 1, by omega, by go_num, ?_, G6.out⟩, by simp [intOf]; omega⟩
        have e : (BkS.mk H buf done).put c = ⟨H, buf ++ [c], done⟩ := by unfold BkS.put; rw [if_neg hfull]
        rw [HN.out, e]
        have hb2 := HNn.out
        cases tail with
        | nil => simp at htl; omega
        | cons t ts =>
          refine ⟨ts, ?_, by simp at htl ⊢; omega, hH, hW⟩
          have e2 : (buf ++ t :: ts).set n c = (buf ++ [c]) ++ ts := by
            rw [List.set_append_right _ _ (by omega), hb2, Nat.sub_self]; simp
          have e3 : (buf ++ [c]).length = n1 := by rw [List.length_append, hb2]; exact hn1
          show Blk w6 p (sCells H ((buf ++ [c]) ++ ts) (buf ++ [c]).length done) _
          rw [e3, ← e2]; exact B6.out
    · have ej : j = l.length := by omega
      rw [ej, List.take_length] at hs
      go_wp2_with fail
      go_end0
      exact ⟨rfl, hs, hg⟩

theorem bState : Tryd.prog.built 205 [(0, .agg (wCells rootsL).toArray)] = some (sCells rootsL (List.replicate 64 0) 0 0).toArray := by kernel_rfl

set_option maxHeartbeats 1600000 in
theorem New_ok (w : World) (hR : RowAt w 1 0 (wCells rootsL)) :
    Calls Tryd.prog 145 #[] w fun e w' => e = .returned (.pointer (some ⟨w.heap.size, 0, none⟩)) ∧ IsB w' w.heap.size BkS.start ∧ w.grownBy w' none := by
  have HR := Lib.hid hR; clear hR
  go_enter Tryd.func145, Tryd.ntmps145
  go_wp2_with (first | (refine wpList_load_part rfl 202 _ rfl 1 0 rfl (wCells rootsL) _ HR.out Tryd.underlying202 rfl size8 ?_) | (refine wpList_build_eq rfl 205 _ rfl [(0, .agg (wCells rootsL).toArray)] (by kernel_rfl) (sCells rootsL (List.replicate 64 0) 0 0) bState ?_) | (refine wpList_box_as rfl 205 _ rfl (sCells rootsL (List.replicate 64 0) 0 0) rfl ?_))
  intro w1 b1 g1 s1
  have c0 : w1.cell? ⟨w.heap.size, 0, none⟩ = some (.int .u32 1779033703) := sCells_word b1 rfl 0 (by omega)
  have ex : bits .xor .u32 1779033703 16842784 = 1795745351 := by kernel_rfl
  have B1 := Lib.hid b1; have G1 := Lib.hid g1; have S1 := Lib.hid s1
  clear b1 g1 s1
  go_wp2_with fail
  go_still_tail 9, (by kernel_rfl)
  refine wpList_store_cell rfl 198 _ _ rfl w.heap.size 0 rfl (.int .u32 ((1795745351 : Nat) : Int)) rfl rfl (sCells rootsL (List.replicate 64 0) 0 0) 205 (show Blk w1.drew _ _ _ from B1.out) (of_decide_eq_true (by kernel_rfl)) (by kernel_rfl) ?_
  intro w2 g2 s2 b2
  have b3 : Blk w2 w.heap.size (sCells startL ([] ++ List.replicate 64 0) 0 0) 205 := b2
  have B3 := Lib.hid b3; have G3 := Lib.hid (grown_new G1.out (undrew_grown g2) (Nat.le_refl _))
  clear b2 g2 s2 b3 c0 ex
  go_wp2
  go_ret
  exact ⟨rfl, ⟨List.replicate 64 0, B3.out, rfl, rfl, startL_ws⟩, G3.out⟩

theorem sizeState (cs : List Value) (h : cs.length = 74) : (Tryd.prog.info? 205).map (·.size) = some cs.length := by rw [h]; kernel_rfl
theorem sCells_clear (H : List Nat) (buf tail : List UInt8) (n d : Nat) (hH : H.length = 8) (hn : buf.length = n) (ht : n + tail.length = 64) :
    (sCells H (buf ++ tail) n d).take (8 + n) ++ List.replicate (64 - n) (.int .u8 0) ++ (sCells H (buf ++ tail) n d).drop (8 + n + (List.replicate (64 - n) (Value.int .u8 0)).length) = sCells H (padL buf) n d := by
  have hL : (wCells H ++ Lib.byteCells buf).length = 8 + n := by rw [List.length_append, wCells_length, Lib.byteCells_length, hH, hn]
  have hT : (Lib.byteCells tail).length = 64 - n := by rw [Lib.byteCells_length]; omega
  have e : ∀ b : List UInt8, sCells H (buf ++ b) n d = (wCells H ++ Lib.byteCells buf) ++ (Lib.byteCells b ++ [.int .i64 (n : Int), .int .u64 (d : Int)]) := fun b => by
    unfold sCells; simp [Lib.byteCells, List.append_assoc]
  unfold padL
  rw [e, e, List.length_replicate, hn]
  rw [List.take_append_of_le_length (by omega), List.take_of_length_le (by omega), List.drop_append, List.drop_eq_nil_of_le (by omega), List.nil_append, hL, Nat.add_sub_cancel_left, List.drop_append_of_le_length (by omega), List.drop_eq_nil_of_le (by omega), List.nil_append]
  simp [Lib.byteCells]
theorem outL_get (X : List Nat) (j : Nat) (h : j < 32) : ((outL X)[j]'(by simp [outL]; exact h)).toNat = gV X (j / 4) / 2 ^ (j % 4 * 8) % 256 := by
  have e : 256 ^ (j % 4) = 2 ^ (j % 4 * 8) := by rw [Nat.mul_comm, Nat.pow_mul]
  unfold outL
  rw [List.getElem_map, List.getElem_range, UInt8.toNat_ofNat', e]
def ZState : List Value := sCells (List.replicate 8 0) (List.replicate 64 0) 0 0
theorem ZState_info : (Tryd.prog.info? 205).map (fun i => i.zero.map (fun v => v.cells)) = some (some ZState.toArray) := by kernel_rfl
theorem sCells_one (H : List Nat) (B : List UInt8) (n done : Nat) : ∀ v ∈ sCells H B n done, v.oneCell' = true := by
  intro v hv
  rcases List.mem_append.1 hv with hv | hv
  · rcases List.mem_append.1 hv with hv | hv
    · exact wCells_one _ v hv
    · exact Lib.byteCells_one _ v hv
  · simp at hv; rcases hv with rfl | rfl <;> rfl

set_option maxHeartbeats 3200000 in
theorem Sum_ok (s : BkS) (p : Nat) (w : World) (h : IsB w p s) (hb : s.buf.length ≤ 64) (hlen : s.size < 4611686018427387904)
    (hR : RowAt w 1 0 (wCells rootsL)) (hp : p ≠ 1) :
    Calls Tryd.prog 147 #[.pointer (some ⟨p, 0, none⟩)] w fun e w' => e = .returned (.agg (Lib.byteCells s.sum).toArray) ∧ w.grownBy w' none := by
  obtain ⟨tail, hS, htl, hH, hW⟩ := h
  obtain ⟨H, buf, done⟩ := s
  simp only [BkS.size] at hlen
  dsimp only at hS htl hH hW hb
  have hlb : (buf ++ tail).length = 64 := by rw [List.length_append]; exact htl
  have hg1 := World.block_lt_of_cell? w ⟨1, 0 + 0, none⟩ (hR 0 _ rfl)
  have HS := Lib.hid hS; have HR := Lib.hid hR
  clear hS hR
  go_enter Tryd.func147, Tryd.ntmps147
  go_wp2_with (refine wpList_alloc_as rfl 24 rfl ZH ZH_info ?_)
  intro w1 k1 k2 k3
  have S1 := Lib.hid (HS.out.grown k2 (by simp)); have R1 := Lib.hid (HR.out.grown k2 (by simp)); have O1 := Lib.hid k1; have G1 := Lib.hid k2
  have hlt := HS.out.lt
  obtain ⟨ob, hob⟩ : ∃ m, w.heap.size = m := ⟨_, rfl⟩
  rw [hob] at O1 hlt hg1 k3 ⊢
  have Hob := Lib.hid hob
  clear hob k1 k2 HS HR
  go_wp2_with (first | (refine wpList_load_part rfl 205 _ rfl p 0 rfl (sCells H (buf ++ tail) buf.length done) _ S1.out.row Tryd.underlying205 rfl (sizeState _ (by rw [sCells_length, hH, hlb])) ?_) | (refine wpList_alloc_as rfl 205 rfl ZState ZState_info ?_))
  intro w2 k1 k2 k4
  have R2 := Lib.hid (R1.out.grown k2 (by simp)); have O2 := Lib.hid (O1.out.grown k2 (by simp)); have T2 := Lib.hid k1; have G2 := Lib.hid (Lib.grownBy_trans G1.out k2)
  clear k1 k2 k4 k3 S1 R1 O1 G1
  go_wp2_with (refine wpList_store_whole rfl 205 _ _ rfl (ob + 1) rfl (sCells H (buf ++ tail) buf.length done) ZState 205 rfl T2.out (by rw [sCells_length, hH, hlb]; rfl) (sCells_one _ _ _ _) (sizeState _ (by rw [sCells_length, hH, hlb])) ?_)
  intro w3 k2 k3 k1
  have R3 := Lib.hid (R2.out.grown k2 (by simp; omega)); have O3 := Lib.hid (O2.out.grown k2 (by simp)); have T3 := Lib.hid k1; have G3 := Lib.hid (grown_new G2.out k2 (by rw [Hob.out]; omega))
  clear k1 k2 k3 R2 O2 T2 G2
  obtain ⟨n, hnn⟩ : ∃ n, buf.length = n := ⟨_, rfl⟩
  rw [hnn] at T3 hlen htl hb
  have cn := sCells_n T3.out hH hlb
  have cd := sCells_done T3.out hH hlb
  obtain ⟨d2, hd2⟩ : ∃ x, done + n = x := ⟨_, rfl⟩
  have hd2i : (done : Int) + (n : Int) = (d2 : Int) := by omega
  have hnw : IntKind.u64.wrap (n : Int) = (n : Int) := by simp [IntKind.wrap, IntKind.bits, IntKind.signed]; omega
  have hdw : IntKind.u64.wrap (d2 : Int) = (d2 : Int) := by simp [IntKind.wrap, IntKind.bits, IntKind.signed]; omega
  have hd3 : d2 < 18446744073709551616 := by omega
  have HN := Lib.hid hnn; have Hd2 := Lib.hid hd2; clear hnn hd2
  have T3' := T3.out
  go_wp2_with (first | (refine wpList_store_cell rfl 25 _ _ rfl (ob + 1) 73 rfl (.int .u64 (d2 : Int)) rfl rfl (sCells H (buf ++ tail) n done) 205 T3' (by rw [sCells_length, hH, hlb]; omega) (by kernel_rfl) ?_))
  intro w4 k2 k3 k1
  rw [sCells_setD _ _ _ _ _ hH hlb] at k1
  have R4 := Lib.hid (R3.out.grown k2 (by simp; omega)); have O4 := Lib.hid (O3.out.grown k2 (by simp)); have T4 := Lib.hid k1; have G4 := Lib.hid (grown_new G3.out k2 (by rw [Hob.out]; omega))
  clear k2 k3 cn cd hd2i hdw hnw T3' R3 O3 T3 G3
  have cn := sCells_n k1 hH hlb
  clear k1
  have hpad : (padL buf).length = 64 := by unfold padL; rw [List.length_append, List.length_replicate, HN.out]; omega
  have hz0 : ∀ (a : Option Addr) (c : Nat) (ty : TypeId) (w : World), (Builtin.clear_ #[30] ty #[.slice a 0 c]).run Tryd.prog w = .ok (.tuple #[]) w := fun a c ty w => by
    cases a <;> simp [Builtin.clear_, run_underlying Tryd.underlying30]
  go_upto_region 5 with (fail)
  go_cut [] from 6 to 22 (fun wx => Blk wx (ob + 1) (sCells H (padL buf) n d2) 205 ∧ w4.grownBy wx (some (ob + 1)))
  case first =>
    by_cases h64 : n = 64
    · have e : padL buf = buf ++ tail := by
        unfold padL
        rw [HN.out, h64, List.eq_nil_of_length_eq_zero (show tail.length = 0 by omega)]; rfl
      have T5 := Lib.hid (show Blk w4 (ob + 1) (sCells H (padL buf) n d2) 205 by rw [e]; exact T4.out)
      have h64i : (n : Int) = 64 := by omega
      rw [h64i] at cn
      go_wp2_with fail
      go_meet
      case rel => exact ⟨T5.out, ⟨rfl, rfl, rfl, Nat.le_refl _, fun _ _ _ => rfl⟩⟩
    · have hni : (n : Int) < 64 := by omega
      have hni2 : (n : Int) ≤ 64 := by omega
      have hcl : ∀ ty, (Builtin.clear_ #[30] ty #[.slice (some ⟨ob + 1, 8 + n, none⟩) (64 - n) (64 - n)]).run Tryd.prog w4 = .ok (.tuple #[]) (w4.setCells (ob + 1) (8 + n) (List.replicate (64 - n) (.int .u8 0))) := fun ty => by
        refine Lib.run_clear_slice w4 _ _ ty _ Tryd.underlying30 (fun w => by kernel_rfl) rfl rfl (ob + 1) (8 + n) _ _ (by omega) (fun j hj => ?_) (fun j hj => T4.out.frozen _)
        have hj2 : 8 + n + j < (sCells H (buf ++ tail) n d2).length := by rw [sCells_length, hH, hlb]; omega
        have := T4.out.row (8 + n + j) _ (List.getElem?_eq_getElem hj2)
        rw [Nat.zero_add] at this
        rw [this]; rfl
      have T5 : Blk (w4.setCells (ob + 1) (8 + n) (List.replicate (64 - n) (.int .u8 0))) (ob + 1) (sCells H (padL buf) n d2) 205 := by
        have := heap_setCells_same (List.replicate (64 - n) (.int .u8 0)) (8 + n) w4 _ T4.out (by rw [sCells_length, hH, hlb, List.length_replicate]; omega)
        rw [sCells_clear H buf tail n d2 hH HN.out htl] at this
        exact this
      have T5 := Lib.hid T5
      go_wp2_with fail
      go_meet
      case rel => exact ⟨T5.out, grown_setCells⟩
  case rest =>
    obtain ⟨t5, g5⟩ := hcut
    have R5 := Lib.hid (R4.out.grown g5 (by simp; omega)); have O5 := Lib.hid (O4.out.grown g5 (by simp)); have T5 := Lib.hid t5; have G5 := Lib.hid (grown_new G4.out g5 (by rw [Hob.out]; omega))
    clear t5 g5 R4 O4 T4 G4 cn hz0
    go_wp2_with fail
    refine (block_ok H (padL buf) n d2 (ob + 1) true wc T5.out hH hW hpad hd3 R5.out (by omega)).mono ?_
    rintro e w6 ⟨rfl, b6, g6⟩
    have hX : (blockL H (padL buf) d2 true).length = 8 := blockL_len _ _ _ _
    have hXw : Ws (blockL H (padL buf) d2 true) := blockL_ws hW _ _ hd3 _
    obtain ⟨X, hXe⟩ : ∃ X, blockL H (padL buf) d2 true = X := ⟨_, rfl⟩
    rw [hXe] at hX hXw b6
    have O6 := Lib.hid (O5.out.grown g6 (by simp)); have T6 := Lib.hid b6; have G6 := Lib.hid (grown_new G5.out g6 (by rw [Hob.out]; omega)); have HX := Lib.hid hXe
    clear b6 g6 hXe R5 O5 T5 G5
    go_wp2_with (refine wpList_alloc_as rfl 24 rfl ZH ZH_info ?_)
    intro w7 k1 k2 k3
    have O7 := Lib.hid (O6.out.grown k2 (by simp)); have T7 := Lib.hid (T6.out.grown k2 (by simp)); have G7 := Lib.hid (Lib.grownBy_trans G6.out k2)
    have hlt6 := T6.out.lt
    obtain ⟨xb, hxb⟩ : ∃ m, w6.heap.size = m := ⟨_, rfl⟩
    rw [hxb] at k1 hlt6 ⊢
    have L7 := Lib.hid k1
    clear k1 k2 k3 hxb O6 T6 G6
    go_wp2_with fail
    go_loopw [24] (fun i wr => ∃ j : Nat, j ≤ 32 ∧ i = .int .i64 j ∧ Blk wr xb (Lib.byteCells ((outL X).take j ++ List.replicate (32 - j) 0)) 24 ∧ w7.grownBy wr (some xb)) (fun i _ => 32 - (intOf i).toNat)
    case atStart => exact ⟨0, Nat.zero_le _, rfl, L7.out, ⟨rfl, rfl, rfl, Nat.le_refl _, fun _ _ _ => rfl⟩⟩
    case round =>
      obtain ⟨j, hj, rfl, hl, hg⟩ := hrel
      have holen : (outL X).length = 32 := by simp [outL]
      by_cases hj32 : j < 32
      · have hji : (j : Int) < 32 := by omega
        obtain ⟨q, hq⟩ : ∃ q, j / 4 = q := ⟨_, rfl⟩
        have hqi : (q : Int) < 8 := by omega
        have eq4 : IntKind.i64.wrap ((j : Int) / 4) = (q : Int) := by simp [IntKind.wrap, IntKind.bits, IntKind.signed]; omega
        obtain ⟨r, hr⟩ : ∃ r, j % 4 = r := ⟨_, rfl⟩
        have er : ((j : Int)).tmod 4 = (r : Int) := by rw [Int.tmod_eq_emod_of_nonneg (by omega)]; omega
        obtain ⟨sf, hsf⟩ : ∃ s, r * 8 = s := ⟨_, rfl⟩
        have hsf32 : (sf : Int) ≤ 32 := by omega
        have es : IntKind.i64.wrap ((r : Int) * 8) = (sf : Int) := by simp [IntKind.wrap, IntKind.bits, IntKind.signed]; omega
        obtain ⟨y, hy⟩ : ∃ y, gV X q / 2 ^ sf = y := ⟨_, rfl⟩
        have ey : (gV X q : Int) / 2 ^ sf = (y : Int) := by rw [← hy]; simp
        obtain ⟨z, hz⟩ : ∃ z, y % 256 = z := ⟨_, rfl⟩
        have ez : IntKind.u8.wrap (y : Int) = (z : Int) := by simp [IntKind.wrap, IntKind.bits, IntKind.signed]; omega
        have cx := sCells_word (T7.out.grown hg (by simp; omega)) hX q (by omega)
        have hjl : j < (outL X).length := by rw [holen]; exact hj32
        have hout : ((outL X)[j]'hjl).toNat = z := by rw [outL_get X j hj32, hq, hr, hsf, hy, hz]
        have hlen : ((outL X).take j ++ List.replicate (32 - j) (0 : UInt8)).length = 32 := by rw [List.length_append, List.length_take, List.length_replicate]; omega
        have Hl := Lib.hid hl; have Hg := Lib.hid hg; have Ho := Lib.hid hout
        have Hl' := hl
        clear hl hg hout hq hr hsf hy hz
        go_wp2_with (first | (refine wpList_store_cell rfl 5 _ _ rfl xb j rfl (.int .u8 (z : Int)) rfl rfl (Lib.byteCells ((outL X).take j ++ List.replicate (32 - j) 0)) 24 Hl' (by rw [Lib.byteCells_length, hlen]; exact hj32) (by kernel_rfl) ?_))
        intro w8 g8 s8 b8
        have e : (Lib.byteCells ((outL X).take j ++ List.replicate (32 - j) 0)).set j (.int .u8 (z : Int)) = Lib.byteCells ((outL X).take (j + 1) ++ List.replicate (32 - (j + 1)) 0) := by
          rw [← Ho.out]
          have h1 : (Lib.byteCells ((outL X).take j ++ List.replicate (32 - j) 0)).set j (.int .u8 (((outL X)[j]'hjl).toNat : Int)) = Lib.byteCells (((outL X).take j ++ List.replicate (32 - j) 0).set j ((outL X)[j]'hjl)) := by simp [Lib.byteCells, List.map_set]
          rw [h1, List.set_append_right _ _ (by rw [List.length_take]; omega), List.length_take, Nat.min_eq_left (by omega), Nat.sub_self, List.take_succ_eq_append_getElem hjl, show 32 - j = (32 - (j + 1)) + 1 by omega, List.replicate_succ, List.set_cons_zero, List.append_assoc]
          rfl
        rw [e] at b8
        have B8 := Lib.hid b8; have G8 := Lib.hid (Lib.grownBy_trans Hg.out g8)
        clear b8 g8 s8 e Hl'
        go_wp2
        exact ⟨⟨j + 1, by omega, by go_num, B8.out, G8.out⟩, by simp [intOf]; omega⟩
      · have ej : j = 32 := by omega
        rw [ej, List.take_of_length_le (by omega), Nat.sub_self, List.replicate_zero, List.append_nil] at hl
        have Hl := Lib.hid hl; have O8 := Lib.hid (O7.out.grown hg (by simp; omega)); have G8 := Lib.hid (grown_new G7.out hg (by rw [Hob.out]; omega))
        have hxl : (Lib.byteCells (outL X)).length = 32 := by rw [Lib.byteCells_length]; exact holen
        clear hl hg O7 T7 G7
        go_wp2_with (first | (refine wpList_load_part rfl 24 _ rfl xb 0 rfl (Lib.byteCells (outL X)) _ Hl.out.row Tryd.underlying24 rfl (sizeH _ hxl) ?_) | (refine wpList_store_whole rfl 24 _ _ rfl ob rfl (Lib.byteCells (outL X)) ZH 24 rfl O8.out (by rw [hxl]; rfl) (Lib.byteCells_one _) (sizeH _ hxl) ?_))
        intro w9 g9 s9 b9
        have B9 := Lib.hid b9; have G9 := Lib.hid (grown_new G8.out g9 (by rw [Hob.out]; omega))
        clear b9 g9 s9
        go_wp2
        refine bodyPost_ret (results_cell_one rfl _ _ ⟨ob, 0, none⟩ _ rfl (run_loadVar_part _ _ _ 24 (Lib.byteCells (outL X)) _ B9.out.row Tryd.underlying24 rfl (sizeH _ hxl))) rfl ?_
        refine ⟨?_, G9.out⟩
        have e : (BkS.mk H buf done).sum = outL X := by
          unfold BkS.sum
          show outL (blockL H (padL buf) (done + buf.length) true) = _
          rw [HN.out, Hd2.out, HX.out]
        rw [e]

/-- a slice of byte slices -/
def RdL (w : World) (v : Value) (ls : List (List UInt8)) : Prop :=
  ∃ ao c cs, v = .slice ao ls.length c ∧ ls.length ≤ c ∧ c ≤ maxLen ∧ cs.length = ls.length ∧ (∀ (i : Nat) l, ls[i]? = some l → ∃ u, cs[i]? = some u ∧ RdB w u l) ∧
    ((ao = none ∧ ls = []) ∨ ∃ g o, ao = some ⟨g, o, none⟩ ∧ g < w.heap.size ∧ RowAt w g o cs)
theorem IsB.grown {w w' : World} {p : Nat} {s : BkS} {row : Option Nat} (h : IsB w p s) (hg : w.grownBy w' row) (hne : some p ≠ row) : IsB w' p s := by
  obtain ⟨t, h1, h2⟩ := h
  exact ⟨t, h1.grown hg hne, h2⟩
theorem start_size : BkS.start.size = 0 := rfl
theorem start_le : BkS.start.buf.length ≤ 64 := Nat.zero_le _
theorem start_one {tag : UInt8} : BkS.start.size + [tag].length < 4611686018427387904 := by rw [start_size]; show 0 + 1 < _; omega
theorem RdB.slice_ne {w : World} {v : Value} {l : List UInt8} (h : RdB w v l) {p : Nat} (hp : w.heap.size ≤ p) : ∀ g o n c, v = .slice (some ⟨g, o, none⟩) n c → g ≠ p := by
  intro g o n c e
  obtain ⟨ao, cp, rfl, _, _, h⟩ := h
  injection e with e1 e2 e3
  rcases h with ⟨rfl, _⟩ | ⟨g', o', rfl, hg, _⟩
  · cases e1
  · injection e1 with e1; injection e1 with e1; omega

set_option maxHeartbeats 1600000 in
theorem Join_ok (tag : UInt8) (ls : List (List UInt8)) (v : Value) (w : World) (hv : RdL w v ls) (hlen : ls.flatten.length < 4611686018427387900)
    (hR : RowAt w 1 0 (wCells rootsL)) :
    Calls Tryd.prog 134 #[.int .u8 (tag.toNat : Int), v] w fun e w' => e = .returned (.agg (Lib.byteCells (blake (tag :: ls.flatten))).toArray) ∧ w.grownBy w' none := by
  obtain ⟨ao, cp, cs, rfl, hc1, hc2, hcl, hcs, hv⟩ := hv
  have hg1 := World.block_lt_of_cell? w ⟨1, 0 + 0, none⟩ (hR 0 _ rfl)
  have hjm : ls.length ≤ 9223372036854775807 := Nat.le_trans hc1 hc2
  have HV := Lib.hid hv; have HC := Lib.hid hcs; have HR := Lib.hid hR
  clear hv hcs hR
  go_enter Tryd.func134, Tryd.ntmps134
  go_wp2_with (refine wpList_alloc_as rfl 24 rfl ZH ZH_info ?_)
  intro w1 k1 k2 k3
  have O1 := Lib.hid k1; have G1 := Lib.hid k2; have S1 := Lib.hid k3
  clear k1 k2 k3
  go_wp2_with fail
  refine (New_ok w1 (HR.out.grown G1.out (by simp))).mono ?_
  rintro e w2 ⟨rfl, b2, g2⟩
  have hs1 := S1.out
  obtain ⟨ob, hob⟩ : ∃ m, w.heap.size = m := ⟨_, rfl⟩
  rw [hob] at hs1 O1 ⊢
  rw [hs1] at b2 ⊢
  have Hob := Lib.hid hob
  have O2 := Lib.hid (O1.out.grown g2 (by simp)); have B2 := Lib.hid b2; have G2 := Lib.hid (Lib.grownBy_trans G1.out g2)
  rw [hob] at hg1
  clear hob b2 g2 O1 S1 hs1
  go_wp2_with fail
  obtain ⟨w3, hw3⟩ : ∃ w3, w2.alloc (.cells #[.int .u8 (tag.toNat : Int)] 5) = w3 := ⟨_, rfl⟩
  have r3 : RdB w3 (.slice (some ⟨w2.heap.size, 0, none⟩) 1 1) [tag] := by
    rw [← hw3]
    exact ⟨_, 1, rfl, Nat.le_refl _, by simp [maxLen], Or.inr ⟨_, 0, rfl, by simp, RowAt_box w2 [.int .u8 (tag.toNat : Int)] _⟩⟩
  have hb3 : w2.grownBy w3 none := hw3 ▸ World.grownBy_alloc w2 _ none
  rw [hw3]
  have hlt2 : ob + 1 < w2.heap.size := (B2.out.elim fun _ h => h.1.lt)
  have O3 := Lib.hid (O2.out.grown hb3 (by simp)); have B3 := Lib.hid (B2.out.grown hb3 (by simp)); have G3 := Lib.hid (Lib.grownBy_trans G2.out hb3)
  clear hw3 hb3 O2 B2 G2
  refine (Write_ok BkS.start [tag] (ob + 1) _ w3 B3.out r3 (by intro g o n c e; injection e with e1; injection e1 with e1; injection e1 with e1; omega) (HR.out.grown G3.out (by simp)) (by omega) start_one start_le).mono ?_
  rintro e w4 ⟨rfl, b4, g4⟩
  have O4 := Lib.hid (O3.out.grown g4 (by simp)); have B4 := Lib.hid b4; have G4 := Lib.hid (grown_new G3.out g4 (by rw [Hob.out]; omega))
  clear b4 g4 r3 O3 B3 G3 hlt2
  go_wp2_with fail
  go_loopw [15] (fun i wr => ∃ j : Nat, j ≤ ls.length ∧ i = .int .i64 j ∧ IsB wr (ob + 1) (BkS.start.puts (tag :: (ls.take j).flatten)) ∧ Blk wr ob ZH 24 ∧ w.grownBy wr none) (fun i _ => ls.length - (intOf i).toNat)
  case atStart => exact ⟨0, Nat.zero_le _, rfl, by rw [List.take_zero, List.flatten_nil]; exact B4.out, O4.out, G4.out⟩
  case round =>
    obtain ⟨j, hj, rfl, hs, ho, hg⟩ := hrel
    have HS := Lib.hid hs; have HO := Lib.hid ho; have HG := Lib.hid hg
    clear hs ho hg
    have hcat : ∀ k, (ls.take k).flatten.length ≤ ls.flatten.length := fun k => by
      have := congrArg (fun x => x.flatten.length) (List.take_append_drop k ls)
      simp only [List.flatten_append, List.length_append] at this
      omega
    have hsz := BkS.puts_size (tag :: (ls.take j).flatten) BkS.start start_le
    rw [start_size, List.length_cons] at hsz
    have hcj := hcat j
    by_cases hjl : j < ls.length
    · have hji : (j : Int) < (ls.length : Int) := by omega
      obtain ⟨g, o, rfl, hgl, hrow⟩ : ∃ g o, ao = some ⟨g, o, none⟩ ∧ g < w.heap.size ∧ RowAt w g o cs := by
        rcases HV.out with ⟨_, h2⟩ | h
        · rw [h2] at hjl; simp at hjl
        · exact h
      obtain ⟨l, hl⟩ : ∃ l, ls[j] = l := ⟨_, rfl⟩
      obtain ⟨u, hu, hru⟩ := HC.out j l (by rw [← hl]; exact List.getElem?_eq_getElem hjl)
      have hcell : wr.cell? ⟨g, o + j, none⟩ = some u := HG.out.cell (hrow j u hu) (by simp)
      have hst : (ls.take (j + 1)).flatten = (ls.take j).flatten ++ l := by rw [List.take_succ_eq_append_getElem hjl, hl]; simp
      have hc1' := hcat (j + 1)
      rw [hst, List.length_append] at hc1'
      have hnxt : BkS.start.puts (tag :: (ls.take (j + 1)).flatten) = (BkS.start.puts (tag :: (ls.take j).flatten)).puts l := by
        rw [hst, ← List.cons_append, BkS.puts_append]
      have hne := hru.slice_ne (p := ob + 1) (by rw [Hob.out]; omega)
      have Hn := Lib.hid hnxt; have Hru := Lib.hid hru; have Hne := Lib.hid hne
      clear hrow hl hu hru hst hnxt hne hcat
      go_wp2_with fail
      refine (Write_ok _ l (ob + 1) u wr HS.out (Hru.out.grown HG.out) Hne.out (HR.out.grown HG.out (by simp)) (by omega) (by omega) hsz.2).mono ?_
      rintro e w5 ⟨rfl, b5, g5⟩
      have B5 := Lib.hid b5; have G5 := Lib.hid (grown_new HG.out g5 (by rw [Hob.out]; omega)); have O5 := Lib.hid (HO.out.grown g5 (by simp))
      clear b5 g5
      go_wp2
      exact ⟨⟨j + 1, by omega, by go_num, by rw [Hn.out]; exact B5.out, O5.out, G5.out⟩, by simp [intOf]; omega⟩
    · have ej : j = ls.length := by omega
      rw [ej, List.take_length] at HS hsz
      clear hcat hcj
      go_wp2_with fail
      refine (Sum_ok _ (ob + 1) wr HS.out hsz.2 (by omega) (HR.out.grown HG.out (by simp)) (by omega)).mono ?_
      rintro e w5 ⟨rfl, g5⟩
      have O5 := Lib.hid (HO.out.grown g5 (by simp)); have G5 := Lib.hid (Lib.grownBy_trans HG.out g5)
      rw [← blake_puts]
      have hbl := blake_len (tag :: ls.flatten)
      obtain ⟨X, hX⟩ : ∃ X, blake (tag :: ls.flatten) = X := ⟨_, rfl⟩
      rw [hX] at hbl ⊢
      have hxl : (Lib.byteCells X).length = 32 := by rw [Lib.byteCells_length]; exact hbl
      have HX := Lib.hid hX
      clear g5 hX
      go_wp2_with (first | (refine wpList_store_whole rfl 24 _ _ rfl ob rfl (Lib.byteCells X) ZH 24 rfl O5.out (by rw [hxl]; rfl) (Lib.byteCells_one _) (sizeH _ hxl) ?_))
      intro w9 g9 s9 b9
      have B9 := Lib.hid b9; have G9 := Lib.hid (grown_new G5.out g9 (by rw [Hob.out]; omega))
      clear b9 g9 s9
      go_wp2
      refine bodyPost_ret (results_cell_one rfl _ _ ⟨ob, 0, none⟩ _ rfl (run_loadVar_part _ _ _ 24 (Lib.byteCells X) _ B9.out.row Tryd.underlying24 rfl (sizeH _ hxl))) rfl ?_
      rw [HX.out]
      exact ⟨rfl, G9.out⟩

end Go.Proofs.YtaffpgafbjhahaaDoor
