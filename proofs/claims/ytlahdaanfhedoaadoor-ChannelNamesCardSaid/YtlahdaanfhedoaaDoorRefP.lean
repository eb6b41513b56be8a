/- Walks: nuncioref06.Packet, Proof. -/
import Derived.Test.YtlahdaanfhedoaaDoorRefSet
import Derived.Test.YtlahdaanfhedoaaDoorDecPacket
namespace Go.Proofs.YtlahdaanfhedoaaDoor
open Go.RowKit
set_option maxRecDepth 100000


theorem step_wanted_g {P : Program} {ops : Array Oper} {o : Oper} {a : Act} {w : World} {K : Act → World → Prop} {Q : Exit → Act → World → Prop} {E : Prop} (hw : Region.wanted o (yielded ops a.tmps) = true) (h : o.wp P a w K Q) :
    if Region.wanted o (yielded ops a.tmps) = true then Oper.wp P o a w K Q else E := by rw [if_pos hw]; exact h
theorem in_f {n lo hi : Int} (h : inR n lo hi = false) (w : World) : Calls Tryd.prog 39 #[.int .i64 n, .int .i64 lo, .int .i64 hi] w fun e w' => e = .returned (.bool false) ∧ w = w' := by
  have := in_any n lo hi w; rw [h] at this; exact this
theorem in_t {n lo hi : Int} (h : inR n lo hi = true) (w : World) : Calls Tryd.prog 39 #[.int .i64 n, .int .i64 lo, .int .i64 hi] w fun e w' => e = .returned (.bool true) ∧ w = w' := by
  have := in_any n lo hi w; rw [h] at this; exact this
theorem enters_in : ∀ args w, (callFunc 39 args).run Tryd.prog w = .ok (.enter 39 args) w := enters Tryd.func39 (by kernel_rfl) rfl
theorem enters_number : ∀ args w, (callFunc 37 args).run Tryd.prog w = .ok (.enter 37 args) w := enters Tryd.func37 (by kernel_rfl) rfl

set_option maxHeartbeats 1000000 in
theorem RPacket (v : PacketD) (w : World) (hv : v.wf) (hc : v.from_.size ≤ 140737488340000) :
    Calls Tryd.prog 20 #[v.val] w (BytesIf (encPacket v) (okPacket v) w) := by
  unfold PacketD.val
  obtain ⟨W, hW, hblk, hrow, hf, hb, hsz⟩ := box_as w v.cells 23
  have HW := Lib.hid hW; have HB := Lib.hid hb; have HS := Lib.hid hsz; have Hv := Lib.hid hv; have Hc := Lib.hid hc
  have A := Lib.hid (PacketD.At.of_row hv hrow)
  have hd63 := hv.data; unfold maxLen at hd63
  clear hW hblk hrow hf hb hsz hv hc
  have c1 := A.out.from_; rw [Nat.zero_add] at c1
  have c2 := A.out.data; rw [Nat.zero_add] at c2
  go_enter Tryd.func20, Tryd.ntmps20
  go_upto_region 1 with (fail)
  rw [HW.out]
  clear HW
  by_cases h256 : v.data.size ≤ 256
  case neg =>
    have d : decide ((256 : Int) < (v.data.size : Int)) = true := by simp; omega
    have e := Lib.hid (show false = okPacket v by unfold okPacket; rw [decide_eq_false h256]; simp)
    go_wp2_with (go_at_call 18; refine (Name_any _ _ Hv.out.from_).mono ?_; rintro e w' ⟨rfl, rfl⟩)
    go_ret2
    exact ⟨_, _, _, ret_two e.out, (fun h => by rw [← e.out] at h; cases h), HB.out⟩
  have d : decide ((256 : Int) < (v.data.size : Int)) = false := by simp; omega
  cases h0 : nameL v.from_.data.toList
  · have e := Lib.hid (show false = okPacket v by unfold okPacket; rw [h0]; simp)
    go_wp2_with (go_at_call 18; refine (Name_any _ _ Hv.out.from_).mono ?_; rintro e w' ⟨rfl, rfl⟩; rw [h0])
    go_ret2
    exact ⟨_, _, _, ret_two e.out, (fun h => by rw [← e.out] at h; cases h), HB.out⟩
  have H0 := Lib.hid h0
  go_upto_region 4 with (go_at_call 18; refine (Name_any _ _ Hv.out.from_).mono ?_; rintro e w' ⟨rfl, rfl⟩; rw [h0])
  clear c1 c2 d hd63 h0
  have c0 := A.out.seq; rw [Nat.zero_add] at c0
  go_cut [5] from 17 (fun s5 w' => OwnB (w.heap.size + 1) s5 (be64 6 ++ be64 v.seq) w' ∧ Below (w.heap.size + 1) W w')
  case first =>
    have hs1 : w.heap.size + 1 ≤ W.drew.heap.size := Nat.le_of_eq HS.out.symm
    go_region_held3 (fun w' => w'.cell? ⟨w.heap.size, 0, none⟩ = some (.int .i64 v.seq)) (first | assumption) (first | (go_at_call 37; refine (MNumber 6 W.drew).mono ?_; rintro e w1 ⟨a1, n1, k1, rfl, o1, b1⟩; have hk1 := cell_keep (w := W.drew) c0 b1; have hs2 := Nat.le_trans hs1 b1.size) | (go_at_call 37; refine (MNumber v.seq w1).mono ?_; rintro e w2 ⟨a2, n2, k2, rfl, o2, b2⟩; have hk2 := cell_keep hk1 b2; have hs3 := Nat.le_trans hs2 b2.size) | (refine step_app (by rfl) _ _ (by rfl) (by rfl) ((o1.below b2).mono hs1) (by rfl) o2.rd ?_ hs3 ?_; (rw [be64_length, be64_length]; omega); intro a3 n3 k3 w3 o3 b3; have hk3 : w3.cell? ⟨w.heap.size, 0, none⟩ = some (.int .i64 v.seq) := (b3.cell (p := ⟨w.heap.size, 0, none⟩) (Nat.lt_succ_self _)).trans hk2))
    go_wp2
    go_meet
    case rel => exact ⟨o3, ((show Below (w.heap.size + 1) W W.drew from (Below.refl _ _).drew).trans ((b1.mono hs1).trans (b2.mono hs2))).trans b3⟩
  case rest =>
  obtain ⟨o, b⟩ := hcut
  obtain ⟨a, n, k, rfl⟩ := o.shape
  have OB := Lib.hid o; have Bel := Lib.hid b; clear o b c0
  have Z := Lib.hid (show w.heap.size + 1 ≤ wc.heap.size from Nat.le_trans (Nat.le_of_eq HS.out.symm) Bel.out.size)
  have c := (A.out.below Hv.out Bel.out (Nat.lt_succ_self _)).from_; rw [Nat.zero_add] at c
  go_wp2_with fail
  refine (MText _ _ (by have := Hc.out; omega)).mono ?_
  rintro e w1 ⟨a1, n1, k1, rfl, o, b⟩
  have OR := Lib.hid o.rd; replace OB := Lib.hid (OB.out.below b); replace Bel := Lib.hid (Bel.out.trans (b.mono Z.out)); replace Z := Lib.hid (Nat.le_trans Z.out b.size); clear o b c
  go_wp2_with (first | (refine wpList_app rfl _ _ rfl rfl OB.out rfl OR.out ?_ Z.out ?_; (simp only [List.length_append, be64_length, textL_length]; have := Hc.out; omega); intro a2 n2 k2 w2 o b; replace OB := Lib.hid o; replace Bel := Lib.hid (Bel.out.trans b); replace Z := Lib.hid (Nat.le_trans Z.out b.size); clear o b OR; have c := (A.out.below Hv.out Bel.out (Nat.lt_succ_self _)).data; rw [Nat.zero_add] at c))
  refine (MText _ _ (by omega)).mono ?_
  rintro e w1 ⟨a1, n1, k1, rfl, o, b⟩
  have OR := Lib.hid o.rd; replace OB := Lib.hid (OB.out.below b); replace Bel := Lib.hid (Bel.out.trans (b.mono Z.out)); replace Z := Lib.hid (Nat.le_trans Z.out b.size); clear o b c
  go_upto_region 7 with (first | (refine wpList_app rfl _ _ rfl rfl OB.out rfl OR.out ?_ Z.out ?_; (simp only [List.length_append, be64_length, textL_length]; have := Hc.out; omega); intro a2 n2 k2 w2 o b; replace OB := Lib.hid o; replace Bel := Lib.hid (Bel.out.trans b); replace Z := Lib.hid (Nat.le_trans Z.out b.size); clear o b OR))
  have c0 := (A.out.below Hv.out Bel.out (Nat.lt_succ_self _)).seq; rw [Nat.zero_add] at c0
  have c3 := (A.out.below Hv.out Bel.out (Nat.lt_succ_self _)).timeout; rw [Nat.zero_add] at c3
  have Z0 := Z.out
  cases h1 : inR v.seq 1 1099511627776
  · have e := Lib.hid (show false = okPacket v by unfold okPacket; rw [h1]; rfl)
    first | (go_region_law ((first | (refine step_wanted (by rfl) (wp_call 37 _ _ (by rfl) enters_number (by rfl) (MNumber v.timeout w2.drew) ?_); rintro e w3 ⟨a3, n3, k3, rfl, o3, b3⟩; refine ⟨_, rfl, ?_⟩; have hk3 := cell_keep (w := w2.drew) c3 b3; have hk0 := cell_keep (w := w2.drew) c0 b3; have hs3 := Nat.le_trans Z.out b3.size) | (refine step_app (by rfl) _ _ (by rfl) (by rfl) ((show OwnB _ _ _ w2.drew from OB.out).below b3) (by rfl) o3.rd ?_ hs3 ?_; (simp only [List.length_append, be64_length, textL_length]; have := Hc.out; omega); intro a4 n4 k4 w4 o4 b4; have hk4 : w4.cell? ⟨w.heap.size, 3, none⟩ = some (.int .i64 v.timeout) := (b4.cell (p := ⟨w.heap.size, 3, none⟩) (Nat.lt_succ_self _)).trans hk3; have hk5 : w4.cell? ⟨w.heap.size, 0, none⟩ = some (.int .i64 v.seq) := (b4.cell (p := ⟨w.heap.size, 0, none⟩) (Nat.lt_succ_self _)).trans hk0) | (refine step_wanted (by rfl) (wp_call 39 _ _ (by rfl) enters_in (by rfl) (in_f h1 w4) ?_); rintro e w' ⟨rfl, rfl⟩; refine ⟨_, rfl, ?_⟩)))) | fail
    all_goals
      go_wp2
      go_ret2
      exact ⟨_, _, _, ret_two e.out, (fun h => by rw [← e.out] at h; cases h), (HB.out.trans ((Bel.out.mono (by omega)).trans ((show Below w.heap.size w2 w2.drew from (Below.refl _ _).drew).trans ((b3.mono (show w.heap.size ≤ w2.heap.size from Nat.le_trans (Nat.le_succ _) Z0)).trans (b4.mono (by omega))))))⟩
  · have e := Lib.hid (show inR v.timeout 1 1099511627776 = okPacket v by unfold okPacket; rw [h1, H0.out, decide_eq_true h256]; simp)
    go_region_held3 (fun w' => w'.cell? ⟨w.heap.size, 3, none⟩ = some (.int .i64 v.timeout) ∧ w'.cell? ⟨w.heap.size, 0, none⟩ = some (.int .i64 v.seq)) (first | exact ⟨by assumption, by assumption⟩) (first | (go_at_call 37; refine (MNumber v.timeout w2.drew).mono ?_; rintro e w3 ⟨a3, n3, k3, rfl, o3, b3⟩; have hk3 := cell_keep (w := w2.drew) c3 b3; have hk0 := cell_keep (w := w2.drew) c0 b3; have hs3 := Nat.le_trans Z.out b3.size) | (refine step_app (by rfl) _ _ (by rfl) (by rfl) ((show OwnB _ _ _ w2.drew from OB.out).below b3) (by rfl) o3.rd ?_ hs3 ?_; (simp only [List.length_append, be64_length, textL_length]; have := Hc.out; omega); intro a4 n4 k4 w4 o4 b4; have hk4 : w4.cell? ⟨w.heap.size, 3, none⟩ = some (.int .i64 v.timeout) := (b4.cell (p := ⟨w.heap.size, 3, none⟩) (Nat.lt_succ_self _)).trans hk3; have hk5 : w4.cell? ⟨w.heap.size, 0, none⟩ = some (.int .i64 v.seq) := (b4.cell (p := ⟨w.heap.size, 0, none⟩) (Nat.lt_succ_self _)).trans hk0) | (go_at_call 39; refine (in_any _ _ _ _).mono ?_; rintro e w' ⟨rfl, rfl⟩; try rw [h1]))
    all_goals
      go_wp2
      go_ret2
      exact ⟨_, _, _, ret_two e.out, (fun _ => o4.mono (by omega)), (HB.out.trans ((Bel.out.mono (by omega)).trans ((show Below w.heap.size w2 w2.drew from (Below.refl _ _).drew).trans ((b3.mono (show w.heap.size ≤ w2.heap.size from Nat.le_trans (Nat.le_succ _) Z0)).trans (b4.mono (by omega))))))⟩

end Go.Proofs.YtlahdaanfhedoaaDoor
