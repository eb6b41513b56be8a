/- Walk: nunciolaw06.FormPackets. -/
import Derived.Test.YtaffpgafbjhahaaDoorWanted
namespace Go.Proofs.YtaffpgafbjhahaaDoor
open Go.RowKit
set_option maxRecDepth 100000

theorem EncodePacket_w (v : PacketD) (w : World) (hv : v.wf) : Calls Tryd.prog 14 #[.agg v.cells.toArray] w (Enc (okPacket v) (encPacket v) w) := by
  cases h : okPacket v with
  | true => exact EncodePacket_yes v w hv h
  | false => exact EncodePacket_no v w hv h
theorem two_boxes' (w : World) (xs ys : List Value) (T U : TypeId) : ∃ W, (w.alloc (.cells xs.toArray T)).alloc (.cells ys.toArray U) = W ∧ Blk W w.heap.size xs T ∧ Blk W (w.heap.size + 1) ys U ∧ w.grownBy W none ∧ W.heap.size = w.heap.size + 2 := by
  refine ⟨_, rfl, (Blk.new w xs T).grown (World.grownBy_alloc _ _ none) (by simp), ?_, Lib.grownBy_trans (World.grownBy_alloc _ _ none) (World.grownBy_alloc _ _ none), by simp⟩
  have := Blk.new (w.alloc (.cells xs.toArray T)) ys U
  rwa [show (w.alloc (.cells xs.toArray T)).heap.size = w.heap.size + 1 by simp] at this

set_option maxHeartbeats 4000000 in
theorem FormPackets_any {B : Nat} (v : PacketD) (p : ProofD) (cs : List Value) (w : World) (hv : v.wf) (hp : p.wf) (hr : p.rep B w cs) (hB : B ≤ w.heap.size) :
    Calls Tryd.prog 4 #[v.val, .agg cs.toArray] w (LawTrue w) := by
  unfold PacketD.val
  obtain ⟨W, hW, B1, B2, hg, hs⟩ := two_boxes' w v.cells cs 38 41
  have hrW := hr.gr hg
  obtain ⟨sl, pcs, hsl, hps, hcs⟩ := hr
  obtain ⟨ao, cp, rfl, hle, hcm, _, hrow⟩ := hsl
  unfold maxLen at hcm
  subst hcs
  have hd1 := hv.data; have hd2 := hv.from_; unfold maxLen at hd1 hd2
  have c1 := B1.row 1 _ rfl; rw [Nat.zero_add] at c1
  have c2 := B1.row 2 _ rfl; rw [Nat.zero_add] at c2
  have c3 := B2.row 1 _ rfl; rw [Nat.zero_add] at c3
  have HW := Lib.hid hW; have H1 := Lib.hid B1; have H2 := Lib.hid B2; have Hg := Lib.hid hg; have HR := Lib.hid hrW
  have Hv := Lib.hid hv; have Hp := Lib.hid hp; have HB := Lib.hid hB; have HPS := Lib.hid hps
  have Hrow : Hid ((ao = none ∧ p.parts.length = 0 ∧ cp = 0) ∨ ∃ g o, ao = some ⟨g, o, none⟩ ∧ g < w.heap.size ∧ RowAt W g o pcs) := by
    rcases hrow with h | ⟨g, o, e, hg2, hr⟩
    · exact Lib.hid (Or.inl h)
    · exact Lib.hid (Or.inr ⟨g, o, e, by omega, hr.grown hg (by simp)⟩)
  clear hW B1 B2 hg hrW hrow hv hp hB hps
  by_cases hbig : v.data.size ≤ 5000 ∧ v.from_.size ≤ 5000 ∧ p.parts.length ≤ 4
  case neg =>
    by_cases z1 : v.data.size ≤ 5000
    · have d1 : decide ((5000 : Int) < (v.data.size : Int)) = false := by simp; omega
      by_cases z2 : v.from_.size ≤ 5000
      · have d2 : decide ((5000 : Int) < (v.from_.size : Int)) = false := by simp; omega
        have d3 : decide ((4 : Int) < (p.parts.length : Int)) = true := by simp; omega
        clear hbig
        go_enter Tryd.func4, Tryd.ntmps4
        go_upto_region 1 with (fail)
        rw [HW.out]
        go_wp2_with fail
        refine (alive_any _).mono ?_
        rintro e w' ⟨rfl, hb⟩
        go_wp2_with fail
        go_ret
        exact ⟨rfl, below_of_grown (Lib.grownBy_trans Hg.out (below_grown hb))⟩
      · have d2 : decide ((5000 : Int) < (v.from_.size : Int)) = true := by simp; omega
        clear hbig
        go_enter Tryd.func4, Tryd.ntmps4
        go_upto_region 1 with (fail)
        rw [HW.out]
        go_wp2_with fail
        refine (alive_any _).mono ?_
        rintro e w' ⟨rfl, hb⟩
        go_wp2_with fail
        go_ret
        exact ⟨rfl, below_of_grown (Lib.grownBy_trans Hg.out (below_grown hb))⟩
    · have d1 : decide ((5000 : Int) < (v.data.size : Int)) = true := by simp; omega
      clear hbig
      go_enter Tryd.func4, Tryd.ntmps4
      go_upto_region 1 with (fail)
      rw [HW.out]
      go_wp2_with fail
      refine (alive_any _).mono ?_
      rintro e w' ⟨rfl, hb⟩
      go_wp2_with fail
      go_ret
      exact ⟨rfl, below_of_grown (Lib.grownBy_trans Hg.out (below_grown hb))⟩
  obtain ⟨z1, z2, z3⟩ := hbig
  have d1 : decide ((5000 : Int) < (v.data.size : Int)) = false := by simp; omega
  have d2 : decide ((5000 : Int) < (v.from_.size : Int)) = false := by simp; omega
  have d3 : decide ((4 : Int) < (p.parts.length : Int)) = false := by simp; omega
  go_enter Tryd.func4, Tryd.ntmps4
  go_upto_region 1 with (fail)
  rw [HW.out]
  go_upto_region 3 with (fail)
  clear d1 d2 d3 c1 c2
  go_wp2_with fail
  go_loopw [5] (fun i wr => ∃ k : Nat, k ≤ p.parts.length ∧ i = .int .i64 k ∧ W = wr) (fun i _ => p.parts.length - (intOf i).toNat)
  case atStart => exact ⟨0, Nat.zero_le _, rfl, rfl⟩
  case round =>
    obtain ⟨k, hk, rfl, rfl⟩ := hrel
    by_cases hlt : k < p.parts.length
    · rcases Hrow.out with ⟨_, h0, _⟩ | ⟨g, o, rfl, hg, hrow⟩
      · omega
      obtain ⟨pv, hpv, hcs⟩ := HPS.out.get k hlt
      obtain ⟨pa, pk, rfl, hple, hpm, _, hprow⟩ := hpv
      unfold maxLen at hpm
      have R := show RowAt W g (o + k * 4) (p.parts[k].cells (.slice pa p.parts[k].path.length pk)) by have := hrow.part (k * 4) 4; rwa [hcs] at this
      have Hwd := Hp.out.parts p.parts[k] (List.getElem_mem _)
      obtain ⟨d, hd⟩ : ∃ d, d = p.parts[k] := ⟨_, rfl⟩
      rw [← hd] at R Hwd hple
      have q1 := Hwd.key; have q2 := Hwd.value; unfold maxLen at q1 q2
      have e1 := R 1 _ rfl
      have e2 := R 2 _ rfl
      have e3 := R 3 _ rfl
      clear hd hrow hg hcs hprow R Hwd
      by_cases y1 : d.path.length ≤ 20
      case neg =>
        have d1 : decide ((20 : Int) < (d.path.length : Int)) = true := by simp; omega
        go_wp2_with fail
        refine (alive_any _).mono ?_
        rintro e w' ⟨rfl, hb⟩
        go_wp2_with fail
        go_ret
        exact ⟨rfl, below_of_grown (Lib.grownBy_trans Hg.out (below_grown hb))⟩
      have d1 : decide ((20 : Int) < (d.path.length : Int)) = false := by simp; omega
      by_cases y2 : d.key.size ≤ 5000
      case neg =>
        have d2 : decide ((5000 : Int) < (d.key.size : Int)) = true := by simp; omega
        go_wp2_with fail
        refine (alive_any _).mono ?_
        rintro e w' ⟨rfl, hb⟩
        go_wp2_with fail
        go_ret
        exact ⟨rfl, below_of_grown (Lib.grownBy_trans Hg.out (below_grown hb))⟩
      have d2 : decide ((5000 : Int) < (d.key.size : Int)) = false := by simp; omega
      by_cases y3 : d.value.size ≤ 5000
      case neg =>
        have d3 : decide ((5000 : Int) < (d.value.size : Int)) = true := by simp; omega
        go_wp2_with fail
        refine (alive_any _).mono ?_
        rintro e w' ⟨rfl, hb⟩
        go_wp2_with fail
        go_ret
        exact ⟨rfl, below_of_grown (Lib.grownBy_trans Hg.out (below_grown hb))⟩
      have d3 : decide ((5000 : Int) < (d.value.size : Int)) = false := by simp; omega
      go_wp2_with fail
      exact ⟨⟨k + 1, by omega, by go_num, by trivial⟩, by simp [intOf]; omega⟩
    · obtain rfl : k = p.parts.length := by omega
      have G0 : W.grownBy W none := World.grownBy.refl W none
      have A1 := Lib.hid H1.out
      have A2 := Lib.hid H2.out
      go_wp2_with (refine wpList_load_part rfl 38 _ rfl w.heap.size 0 rfl v.cells _ A1.out.row Tryd.underlying38 rfl (v.size Hv.out) ?_)
      refine (EncodePacket_w v _ Hv.out).mono ?_
      intro e w2 he
      obtain ⟨a1, n1, k1, c1, rfl, E1, g⟩ := EncW.of he
      have E1 := Lib.hid E1
      replace A1 := Lib.hid (A1.out.grown g (by simp)); replace A2 := Lib.hid (A2.out.grown g (by simp)); replace HR := Lib.hid ((HR.out.gr g)); have G := Lib.hid g; clear g he c3
      go_wp2_with (refine wpList_load_part rfl 38 _ rfl w.heap.size 0 rfl v.cells _ A1.out.row Tryd.underlying38 rfl (v.size Hv.out) ?_)
      refine (RPacket v _ Hv.out (by omega)).mono ?_
      intro e w3 he
      obtain ⟨a2, n2, k2, rfl, E2, g⟩ := RefW.ofIf he
      have E2 := Lib.hid E2
      replace E1 := Lib.hid (E1.out.gr g); replace A2 := Lib.hid (A2.out.grown g (by simp)); replace HR := Lib.hid ((HR.out.gr g)); replace G := Lib.hid (Lib.grownBy_trans G.out g); clear g he A1
      go_wp2_with (refine wpList_load_part rfl 41 _ rfl (w.heap.size + 1) 0 rfl [.int .i64 p.size, .slice ao p.parts.length cp] _ A2.out.row Tryd.underlying41 rfl sizeProof ?_)
      refine (EncodeProof_any p _ _ Hp.out (HR.out.mono (Nat.le_trans HB.out (Lib.grownBy_trans Hg.out G.out).size))).mono ?_
      intro e w4 he
      obtain ⟨a3, n3, k3, c3, rfl, E3, g⟩ := EncW.of he
      have E3 := Lib.hid E3
      replace E1 := Lib.hid (E1.out.gr g); replace E2 := Lib.hid (E2.out.gr g); replace A2 := Lib.hid (A2.out.grown g (by simp)); replace HR := Lib.hid ((HR.out.gr g)); replace G := Lib.hid (Lib.grownBy_trans G.out g); clear g he
      go_wp2_with (refine wpList_load_part rfl 41 _ rfl (w.heap.size + 1) 0 rfl [.int .i64 p.size, .slice ao p.parts.length cp] _ A2.out.row Tryd.underlying41 rfl sizeProof ?_)
      refine (RProof p _ _ HR.out (Nat.le_trans HB.out (Lib.grownBy_trans Hg.out G.out).size) Hp.out).mono ?_
      intro e w5 he
      obtain ⟨a4, n4, k4, rfl, E4, g⟩ := RefW.ofIf he
      have E4 := Lib.hid E4
      replace E1 := Lib.hid (E1.out.gr g); replace E2 := Lib.hid (E2.out.gr g); replace E3 := Lib.hid (E3.out.gr g); replace G := Lib.hid (Lib.grownBy_trans G.out g); clear g he A2 HR
      go_wp2_with fail
      refine (wanted_any _ _ _ _ _ _ _ _ _ _ E1.out E2.out).mono ?_
      rintro e w' ⟨rfl, rfl⟩
      go_wp2_with fail
      refine (wanted_any _ _ _ _ _ _ _ _ _ _ E3.out E4.out).mono ?_
      rintro e w' ⟨rfl, rfl⟩
      clear E1 E2 E3 E4
      go_wp2_with fail
      refine (alive_any _).mono ?_
      rintro e w' ⟨rfl, hb⟩
      go_wp2_with fail
      go_ret
      exact ⟨rfl, below_of_grown (Lib.grownBy_trans (Lib.grownBy_trans Hg.out G.out) (below_grown hb))⟩

end Go.Proofs.YtaffpgafbjhahaaDoor
