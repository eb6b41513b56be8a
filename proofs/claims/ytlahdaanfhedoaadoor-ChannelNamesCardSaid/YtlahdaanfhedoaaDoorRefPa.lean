/- The document's packet: its bytes, right or not. -/
import Derived.Test.YtlahdaanfhedoaaDoorRefP
namespace Go.Proofs.YtlahdaanfhedoaaDoor
open Go.RowKit
set_option maxRecDepth 100000

/-- bytes, and whether they are those of a right thing -/
def BytesAny (l : List UInt8) (ok : Bool) (w : World) (e : Ending) (w' : World) : Prop := ∃ a n c l', e = .returned (.tuple #[.slice a n c, .bool ok]) ∧ OwnB w.heap.size (.slice a n c) l' w' ∧ (ok = true → l' = l) ∧ l'.length ≤ 1000 ∧ Below w.heap.size w w'
set_option maxHeartbeats 1000000 in
theorem RPacket2 (v : PacketD) (w : World) (hv : v.wf) :
    Calls Tryd.prog 20 #[v.val] w (BytesAny (encPacket v) (okPacket v) w) := by
  unfold PacketD.val
  obtain ⟨W, hW, hblk, hrow, hf, hb, hsz⟩ := box_as w v.cells 23
  have HW := Lib.hid hW; have HB := Lib.hid hb; have HS := Lib.hid hsz; have Hv := Lib.hid hv
  have A := Lib.hid (PacketD.At.of_row hv hrow)
  have hd63 := hv.data; unfold maxLen at hd63
  clear hW hblk hrow hf hb hsz hv
  have c1 := A.out.from_; rw [Nat.zero_add] at c1
  have c2 := A.out.data; rw [Nat.zero_add] at c2
  go_enter Tryd.func20, Tryd.ntmps20
  go_upto_region 1 with (fail)
  rw [HW.out]
  clear HW
  by_cases h256 : v.data.size ≤ 256
  case neg =>
    have d : decide ((256 : Int) < (v.data.size : Int)) = true := by simp; omega
    have e := Lib.hid (show false = okPacket v by unfold okPacket; rw [decide_eq_false h256]; simp)
    go_wp2_with (go_at_call 18; refine (Name_any _ _ Hv.out.from_).mono ?_; rintro e w' ⟨rfl, rfl⟩)
    go_ret2
    exact ⟨_, _, _, [], ret_two e.out, World.ownsRow_nil _ _ _ _, (fun h => by rw [← e.out] at h; cases h), by decide, HB.out⟩
  have d : decide ((256 : Int) < (v.data.size : Int)) = false := by simp; omega
  cases h0 : nameL v.from_.data.toList
  · have e := Lib.hid (show false = okPacket v by unfold okPacket; rw [h0]; simp)
    go_wp2_with (go_at_call 18; refine (Name_any _ _ Hv.out.from_).mono ?_; rintro e w' ⟨rfl, rfl⟩; rw [h0])
    go_ret2
    exact ⟨_, _, _, [], ret_two e.out, World.ownsRow_nil _ _ _ _, (fun h => by rw [← e.out] at h; cases h), by decide, HB.out⟩
  have H0 := Lib.hid h0
  have HLEN := Lib.hid (show (encPacket v).length ≤ 1000 by
    have h1 := (nameL_len h0).2
    have h2 : v.from_.size ≤ 16 := by simpa using h1
    unfold encPacket
    simp only [List.length_append, be64_length, textL_length]
    omega)
  have Hc := Lib.hid (show v.from_.size ≤ 140737488340000 by have := (nameL_len h0).2; simp at this; omega)
  go_upto_region 4 with (go_at_call 18; refine (Name_any _ _ Hv.out.from_).mono ?_; rintro e w' ⟨rfl, rfl⟩; rw [h0])
  clear c1 c2 d hd63 h0
  have c0 := A.out.seq; rw [Nat.zero_add] at c0
  go_cut [5] from 17 (fun s5 w' => OwnB (w.heap.size + 1) s5 (be64 6 ++ be64 v.seq) w' ∧ Below (w.heap.size + 1) W w')
  case first =>
    have hs1 : w.heap.size + 1 ≤ W.drew.heap.size := Nat.le_of_eq HS.out.symm
    go_region_held3 (fun w' => w'.cell? ⟨w.heap.size, 0, none⟩ = some (.int .i64 v.seq)) (first | assumption) (first | (go_at_call 37; refine (MNumber 6 W.drew).mono ?_; rintro e w1 ⟨a1, n1, k1, rfl, o1, b1⟩; have hk1 := cell_keep (w := W.drew) c0 b1; have hs2 := Nat.le_trans hs1 b1.size) | (go_at_call 37; refine (MNumber v.seq w1).mono ?_; rintro e w2 ⟨a2, n2, k2, rfl, o2, b2⟩; have hk2 := cell_keep hk1 b2; have hs3 := Nat.le_trans hs2 b2.size) | (refine step_app (by rfl) _ _ (by rfl) (by rfl) ((o1.below b2).mono hs1) (by rfl) o2.rd ?_ hs3 ?_; (rw [be64_length, be64_length]; omega); intro a3 n3 k3 w3 o3 b3; have hk3 : w3.cell? ⟨w.heap.size, 0, none⟩ = some (.int .i64 v.seq) := (b3.cell (p := ⟨w.heap.size, 0, none⟩) (Nat.lt_succ_self _)).trans hk2))
    go_wp2
    go_meet
    case rel => exact ⟨o3, ((show Below (w.heap.size + 1) W W.drew from (Below.refl _ _).drew).trans ((b1.mono hs1).trans (b2.mono hs2))).trans b3⟩
  case rest =>
  obtain ⟨o, b⟩ := hcut
  obtain ⟨a, n, k, rfl⟩ := o.shape
  have OB := Lib.hid o; have Bel := Lib.hid b; clear o b c0
  have Z := Lib.hid (show w.heap.size + 1 ≤ wc.heap.size from Nat.le_trans (Nat.le_of_eq HS.out.symm) Bel.out.size)
  have c := (A.out.below Hv.out Bel.out (Nat.lt_succ_self _)).from_; rw [Nat.zero_add] at c
  go_wp2_with fail
  refine (MText _ _ (by have := Hc.out; omega)).mono ?_
  rintro e w1 ⟨a1, n1, k1, rfl, o, b⟩
  have OR := Lib.hid o.rd; replace OB := Lib.hid (OB.out.below b); replace Bel := Lib.hid (Bel.out.trans (b.mono Z.out)); replace Z := Lib.hid (Nat.le_trans Z.out b.size); clear o b c
  go_wp2_with (first | (refine wpList_app rfl _ _ rfl rfl OB.out rfl OR.out ?_ Z.out ?_; (simp only [List.length_append, be64_length, textL_length]; have := Hc.out; omega); intro a2 n2 k2 w2 o b; replace OB := Lib.hid o; replace Bel := Lib.hid (Bel.out.trans b); replace Z := Lib.hid (Nat.le_trans Z.out b.size); clear o b OR; have c := (A.out.below Hv.out Bel.out (Nat.lt_succ_self _)).data; rw [Nat.zero_add] at c))
  refine (MText _ _ (by omega)).mono ?_
  rintro e w1 ⟨a1, n1, k1, rfl, o, b⟩
  have OR := Lib.hid o.rd; replace OB := Lib.hid (OB.out.below b); replace Bel := Lib.hid (Bel.out.trans (b.mono Z.out)); replace Z := Lib.hid (Nat.le_trans Z.out b.size); clear o b c
  go_upto_region 7 with (first | (refine wpList_app rfl _ _ rfl rfl OB.out rfl OR.out ?_ Z.out ?_; (simp only [List.length_append, be64_length, textL_length]; have := Hc.out; omega); intro a2 n2 k2 w2 o b; replace OB := Lib.hid o; replace Bel := Lib.hid (Bel.out.trans b); replace Z := Lib.hid (Nat.le_trans Z.out b.size); clear o b OR))
  have c0 := (A.out.below Hv.out Bel.out (Nat.lt_succ_self _)).seq; rw [Nat.zero_add] at c0
  have c3 := (A.out.below Hv.out Bel.out (Nat.lt_succ_self _)).timeout; rw [Nat.zero_add] at c3
  have Z0 := Z.out
  cases h1 : inR v.seq 1 1099511627776
  · have e := Lib.hid (show false = okPacket v by unfold okPacket; rw [h1]; rfl)
    first | (go_region_law ((first | (refine step_wanted (by rfl) (wp_call 37 _ _ (by rfl) enters_number (by rfl) (MNumber v.timeout w2.drew) ?_); rintro e w3 ⟨a3, n3, k3, rfl, o3, b3⟩; refine ⟨_, rfl, ?_⟩; have hk3 := cell_keep (w := w2.drew) c3 b3; have hk0 := cell_keep (w := w2.drew) c0 b3; have hs3 := Nat.le_trans Z.out b3.size) | (refine step_app (by rfl) _ _ (by rfl) (by rfl) ((show OwnB _ _ _ w2.drew from OB.out).below b3) (by rfl) o3.rd ?_ hs3 ?_; (simp only [List.length_append, be64_length, textL_length]; have := Hc.out; omega); intro a4 n4 k4 w4 o4 b4; have hk4 : w4.cell? ⟨w.heap.size, 3, none⟩ = some (.int .i64 v.timeout) := (b4.cell (p := ⟨w.heap.size, 3, none⟩) (Nat.lt_succ_self _)).trans hk3; have hk5 : w4.cell? ⟨w.heap.size, 0, none⟩ = some (.int .i64 v.seq) := (b4.cell (p := ⟨w.heap.size, 0, none⟩) (Nat.lt_succ_self _)).trans hk0) | (refine step_wanted (by rfl) (wp_call 39 _ _ (by rfl) enters_in (by rfl) (in_f h1 w4) ?_); rintro e w' ⟨rfl, rfl⟩; refine ⟨_, rfl, ?_⟩)))) | fail
    all_goals
      go_wp2
      go_ret2
      exact ⟨_, _, _, _, ret_two e.out, o4.mono (by omega), (fun h => by rw [← e.out] at h; cases h), HLEN.out, (HB.out.trans ((Bel.out.mono (by omega)).trans ((show Below w.heap.size w2 w2.drew from (Below.refl _ _).drew).trans ((b3.mono (show w.heap.size ≤ w2.heap.size from Nat.le_trans (Nat.le_succ _) Z0)).trans (b4.mono (by omega))))))⟩
  · have e := Lib.hid (show inR v.timeout 1 1099511627776 = okPacket v by unfold okPacket; rw [h1, H0.out, decide_eq_true h256]; simp)
    go_region_held3 (fun w' => w'.cell? ⟨w.heap.size, 3, none⟩ = some (.int .i64 v.timeout) ∧ w'.cell? ⟨w.heap.size, 0, none⟩ = some (.int .i64 v.seq)) (first | exact ⟨by assumption, by assumption⟩) (first | (go_at_call 37; refine (MNumber v.timeout w2.drew).mono ?_; rintro e w3 ⟨a3, n3, k3, rfl, o3, b3⟩; have hk3 := cell_keep (w := w2.drew) c3 b3; have hk0 := cell_keep (w := w2.drew) c0 b3; have hs3 := Nat.le_trans Z.out b3.size) | (refine step_app (by rfl) _ _ (by rfl) (by rfl) ((show OwnB _ _ _ w2.drew from OB.out).below b3) (by rfl) o3.rd ?_ hs3 ?_; (simp only [List.length_append, be64_length, textL_length]; have := Hc.out; omega); intro a4 n4 k4 w4 o4 b4; have hk4 : w4.cell? ⟨w.heap.size, 3, none⟩ = some (.int .i64 v.timeout) := (b4.cell (p := ⟨w.heap.size, 3, none⟩) (Nat.lt_succ_self _)).trans hk3; have hk5 : w4.cell? ⟨w.heap.size, 0, none⟩ = some (.int .i64 v.seq) := (b4.cell (p := ⟨w.heap.size, 0, none⟩) (Nat.lt_succ_self _)).trans hk0) | (go_at_call 39; refine (in_any _ _ _ _).mono ?_; rintro e w' ⟨rfl, rfl⟩; try rw [h1]))
    all_goals
      go_wp2
      go_ret2
      exact ⟨_, _, _, _, ret_two e.out, o4.mono (by omega), fun _ => rfl, HLEN.out, (HB.out.trans ((Bel.out.mono (by omega)).trans ((show Below w.heap.size w2 w2.drew from (Below.refl _ _).drew).trans ((b3.mono (show w.heap.size ≤ w2.heap.size from Nat.le_trans (Nat.le_succ _) Z0)).trans (b4.mono (by omega))))))⟩

end Go.Proofs.YtlahdaanfhedoaaDoor
