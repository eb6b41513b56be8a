/- Walk: nunciolaw06.FormSets. -/
import Derived.Test.YtaffpgafbjhahaaDoorFormVotes
namespace Go.Proofs.YtaffpgafbjhahaaDoor
open Go.RowKit
set_option maxRecDepth 100000

theorem sizeLight3 (cs : List Value) (h : cs.length = 200) : (Tryd.prog.info? 71).map (·.size) = some cs.length := by rw [h]; kernel_rfl
theorem box_light (w : World) (cs : List Value) (T : TypeId) : ∃ W, w.alloc (.cells cs.toArray T) = W ∧ Blk W w.heap.size cs T ∧ w.grownBy W none := ⟨_, rfl, Blk.new w cs T, World.grownBy_alloc w _ none⟩
theorem slice_of {B : Nat} {w : World} {v : Value} {n k : Nat} {cs : List Value} (h : RdS B w v n k cs) : ∃ a c, v = .slice a n c ∧ n ≤ 9223372036854775807 := by
  obtain ⟨a, c, e, h2, h3, _⟩ := h
  exact ⟨a, c, e, by unfold maxLen at h3; omega⟩
theorem rep_seals {B : Nat} {w : World} {l : LightD} {cs : List Value} (hr : l.rep B w cs) (hl : l.wf) : ∃ qv, RdS B w qv l.commit.seals.length 3 (sealCells l.commit.seals) ∧ cs[197]? = some qv := by
  obtain ⟨cc, sv, nv, ⟨qv, h1, e1⟩, h2, h3, rfl⟩ := hr
  refine ⟨qv, h1, ?_⟩
  have e0 := l.header.cells_length hl.header
  rw [e1, List.append_assoc, List.getElem?_append_right (by omega), e0, List.append_assoc, List.getElem?_append_right (by simp [Lib.byteCells_length, hl.commit.block])]
  simp [Lib.byteCells_length, hl.commit.block]

set_option maxHeartbeats 4000000 in
theorem FormSets_any (l : LightD) (cs : List Value) (w : World) (hl : l.wf) (hr : l.rep w.heap.size w cs) (hc : l.header.chain.size ≤ 140737488351232) (hR : RowAt w 1 0 (wCells rootsL)) :
    Calls Tryd.prog 9 #[.agg cs.toArray] w (LawTrue w) := by
  obtain ⟨W, hW, B1, hg⟩ := box_light w cs 71
  obtain ⟨_, ⟨cc, p1, p2⟩, ⟨sv, s1, s2⟩, ⟨nv, n1, n2⟩⟩ := LightD.parts hr hl
  obtain ⟨qv, q1, q2⟩ := rep_seals hr hl
  obtain ⟨sa, sk, rfl, hsl⟩ := slice_of s1
  obtain ⟨na, nk, rfl, hnl⟩ := slice_of n1
  obtain ⟨qa, qk, rfl, hql⟩ := slice_of q1
  have c198 := B1.row 198 _ s2; rw [Nat.zero_add] at c198
  have c199 := B1.row 199 _ n2; rw [Nat.zero_add] at c199
  have c197 := B1.row 197 _ q2; rw [Nat.zero_add] at c197
  have HW := Lib.hid hW; have A1 := Lib.hid B1; have G := Lib.hid hg; have S0 := Lib.hid s1; have S2 := Lib.hid s2; have P1 := Lib.hid p1; have P2 := Lib.hid p2
  have Hl := Lib.hid hl; have Hr := Lib.hid hr; have Hc := Lib.hid hc; have HR := Lib.hid hR; have HlL := Lib.hid (hr.length hl)
  clear hW B1 hg s1 n1 q1 s2 n2 q2 p1 p2 hl hr hc hR
  by_cases hbig : l.set.length ≤ 70 ∧ l.next.length ≤ 70 ∧ l.commit.seals.length ≤ 70
  case neg =>
    by_cases z1 : l.set.length ≤ 70
    · have d1 : decide ((70 : Int) < (l.set.length : Int)) = false := by simp; omega
      by_cases z2 : l.next.length ≤ 70
      · have d2 : decide ((70 : Int) < (l.next.length : Int)) = false := by simp; omega
        have d3 : decide ((70 : Int) < (l.commit.seals.length : Int)) = true := by simp; omega
        clear hbig
        go_enter Tryd.func9, Tryd.ntmps9
        go_upto_region 1 with (fail)
        rw [HW.out]
        go_wp2_with fail
        refine (alive_any _).mono ?_
        rintro e w' ⟨rfl, hb⟩
        go_wp2_with fail
        go_ret
        exact ⟨rfl, below_of_grown (Lib.grownBy_trans G.out (below_grown hb))⟩
      · have d2 : decide ((70 : Int) < (l.next.length : Int)) = true := by simp; omega
        clear hbig
        go_enter Tryd.func9, Tryd.ntmps9
        go_upto_region 1 with (fail)
        rw [HW.out]
        go_wp2_with fail
        refine (alive_any _).mono ?_
        rintro e w' ⟨rfl, hb⟩
        go_wp2_with fail
        go_ret
        exact ⟨rfl, below_of_grown (Lib.grownBy_trans G.out (below_grown hb))⟩
    · have d1 : decide ((70 : Int) < (l.set.length : Int)) = true := by simp; omega
      clear hbig
      go_enter Tryd.func9, Tryd.ntmps9
      go_upto_region 1 with (fail)
      rw [HW.out]
      go_wp2_with fail
      refine (alive_any _).mono ?_
      rintro e w' ⟨rfl, hb⟩
      go_wp2_with fail
      go_ret
      exact ⟨rfl, below_of_grown (Lib.grownBy_trans G.out (below_grown hb))⟩
  obtain ⟨z1, z2, z3⟩ := hbig
  have d1 : decide ((70 : Int) < (l.set.length : Int)) = false := by simp; omega
  have d2 : decide ((70 : Int) < (l.next.length : Int)) = false := by simp; omega
  have d3 : decide ((70 : Int) < (l.commit.seals.length : Int)) = false := by simp; omega
  go_enter Tryd.func9, Tryd.ntmps9
  go_upto_region 1 with (fail)
  rw [HW.out]
  go_upto_region 3 with (fail)
  clear c197 c199 d1 d2 d3 z1 z2 z3 HW
  go_wp2_with fail
  refine (EncodeSet_any _ l.set _ Hl.out.set ((S0.out.grown G.out).mono G.out.size)).mono ?_
  intro e w2 he
  obtain ⟨a1, n1, k1, c1, rfl, E1, g⟩ := EncW.of he
  have E1 := Lib.hid E1
  replace A1 := Lib.hid (A1.out.grown g (by simp)); replace G := Lib.hid (Lib.grownBy_trans G.out g); clear g he c198
  have c198 := A1.out.row 198 _ S2.out; rw [Nat.zero_add] at c198
  go_wp2_with fail
  refine (RSet _ l.set _ (S0.out.grown G.out) G.out.size Hl.out.set).mono ?_
  intro e w3 he
  obtain ⟨a2, n2, k2, rfl, E2, g⟩ := RefW.ofOk (l' := encSet l.set) he refSet_ok
  have E2 := Lib.hid E2
  replace E1 := Lib.hid (E1.out.gr g); replace A1 := Lib.hid (A1.out.grown g (by simp)); replace G := Lib.hid (Lib.grownBy_trans G.out g); clear g he c198
  obtain ⟨os, hos⟩ : ∃ o, okSet l.set = o := ⟨_, rfl⟩
  rw [hos] at E1 E2 ⊢
  have Hos := Lib.hid hos; clear hos
  have R := Lib.hid (show RowAt w3 w.heap.size 163 cc by have := A1.out.row.part 163 35; rwa [P2.out, Nat.zero_add] at this)
  go_wp2_with (refine wpList_load_part rfl 68 _ rfl w.heap.size 163 rfl cc _ R.out Tryd.underlying68 rfl (by rw [P1.out.length Hl.out.commit]; exact sizeCommit) ?_)
  refine (EncodeCommit_any l.commit cc _ Hl.out.commit ((rep_grown P1.out G.out).mono G.out.size)).mono ?_
  intro e w4 he
  obtain ⟨a3, n3, k3, c3, rfl, E3, g⟩ := EncW.of he
  have E3 := Lib.hid E3
  replace E1 := Lib.hid (E1.out.gr g); replace E2 := Lib.hid (E2.out.gr g); replace A1 := Lib.hid (A1.out.grown g (by simp)); replace G := Lib.hid (Lib.grownBy_trans G.out g); clear g he R
  have R := Lib.hid (show RowAt w4 w.heap.size 163 cc by have := A1.out.row.part 163 35; rwa [P2.out, Nat.zero_add] at this)
  go_wp2_with (refine wpList_load_part rfl 68 _ rfl w.heap.size 163 rfl cc _ R.out Tryd.underlying68 rfl (by rw [P1.out.length Hl.out.commit]; exact sizeCommit) ?_)
  refine (RCommit l.commit cc _ (rep_grown P1.out G.out) G.out.size Hl.out.commit).mono ?_
  intro e w5 he
  obtain ⟨a4, n4, k4, rfl, E4, g⟩ := RefW.ofOk (l' := encCommit l.commit) he refCommit_ok
  have E4 := Lib.hid E4
  replace E1 := Lib.hid (E1.out.gr g); replace E2 := Lib.hid (E2.out.gr g); replace E3 := Lib.hid (E3.out.gr g); replace A1 := Lib.hid (A1.out.grown g (by simp)); replace G := Lib.hid (Lib.grownBy_trans G.out g); clear g he R
  obtain ⟨oc, hoc⟩ : ∃ o, okCommitN l.commit = o := ⟨_, rfl⟩
  rw [hoc] at E3 E4 ⊢
  clear hoc
  go_wp2_with (refine wpList_load_part rfl 71 _ rfl w.heap.size 0 rfl cs _ A1.out.row Tryd.underlying71 rfl (sizeLight3 _ HlL.out) ?_)
  refine (EncodeLight_any l cs _ Hl.out ((Hr.out.below (below_of_grown G.out) (Nat.le_refl _)).mono G.out.size)).mono ?_
  intro e w6 he
  obtain ⟨a5, n5, k5, c5, rfl, E5, g⟩ := EncW.of he
  have E5 := Lib.hid E5
  replace E1 := Lib.hid (E1.out.gr g); replace E2 := Lib.hid (E2.out.gr g); replace E3 := Lib.hid (E3.out.gr g); replace E4 := Lib.hid (E4.out.gr g); replace A1 := Lib.hid (A1.out.grown g (by simp)); replace G := Lib.hid (Lib.grownBy_trans G.out g); clear g he
  go_wp2_with (refine wpList_load_part rfl 71 _ rfl w.heap.size 0 rfl cs _ A1.out.row Tryd.underlying71 rfl (sizeLight3 _ HlL.out) ?_)
  refine (RLight l cs _ (Hr.out.below (below_of_grown G.out) (Nat.le_refl _)) G.out.size Hl.out Hc.out).mono ?_
  intro e w7 he
  obtain ⟨a6, n6, k6, rfl, E6, g⟩ := RefW.ofOk (l' := encLight l) he refLight_ok
  have E6 := Lib.hid E6
  replace E1 := Lib.hid (E1.out.gr g); replace E2 := Lib.hid (E2.out.gr g); replace E3 := Lib.hid (E3.out.gr g); replace E4 := Lib.hid (E4.out.gr g); replace E5 := Lib.hid (E5.out.gr g); replace A1 := Lib.hid (A1.out.grown g (by simp)); replace G := Lib.hid (Lib.grownBy_trans G.out g); clear g he
  obtain ⟨ol, hol⟩ : ∃ o, okLight l = o := ⟨_, rfl⟩
  rw [hol] at E5 E6 ⊢
  clear hol
  have HH := Lib.hid (SetHash_any (.slice sa l.set.length sk) l.set w7 Hl.out.set ((S0.out.grown G.out).mono G.out.size) (HR.out.grown G.out (by simp)))
  have hx : (Lib.byteCells (hshL 3 (okSet l.set) (encSet l.set))).length = 32 := by rw [Lib.byteCells_length]; exact hshL_len _ _ _
  have hy : (Lib.byteCells (blake (3 :: refSet l.set))).length = 32 := by rw [Lib.byteCells_length]; exact blake_len _
  obtain ⟨X, hX⟩ : ∃ X, hshL 3 (okSet l.set) (encSet l.set) = X := ⟨_, rfl⟩
  obtain ⟨Y, hY⟩ : ∃ Y, blake (3 :: refSet l.set) = Y := ⟨_, rfl⟩
  rw [hX] at hx; rw [hY] at hy
  have HX := Lib.hid hX; have HY := Lib.hid hY; clear hX hY
  have c198 := A1.out.row 198 _ S2.out; rw [Nat.zero_add] at c198
  go_wp2_with fail
  refine HH.out.mono ?_
  rintro e w8 ⟨rfl, g⟩
  rw [HX.out, Hos.out]
  replace E1 := Lib.hid (E1.out.gr g); replace E2 := Lib.hid (E2.out.gr g); replace E3 := Lib.hid (E3.out.gr g); replace E4 := Lib.hid (E4.out.gr g); replace E5 := Lib.hid (E5.out.gr g); replace E6 := Lib.hid (E6.out.gr g); replace A1 := Lib.hid (A1.out.grown g (by simp)); replace G := Lib.hid (Lib.grownBy_trans G.out g); clear g HH c198
  obtain ⟨dd, hdd⟩ : ∃ c : Int, (if os = true then 0 else 61) = c := ⟨_, rfl⟩
  rw [hdd]
  have HC := Lib.hid hdd; clear hdd
  go_wp2_with (refine wpList_alloc_as rfl 24 rfl ZH ZH_info ?_)
  intro w9 k p g
  have S1 := Lib.hid k; have P9 := Lib.hid p
  obtain ⟨sb, hsb⟩ : ∃ n, w8.heap.size = n := ⟨_, rfl⟩
  rw [hsb] at S1 ⊢
  have Hsb := Lib.hid hsb
  clear k p g hsb
  go_wp2_with (first | (refine wpList_store_whole rfl 24 _ _ rfl sb rfl (Lib.byteCells X) ZH 24 rfl S1.out (by rw [hx]; rfl) (Lib.byteCells_one _) (sizeH _ hx) ?_))
  intro w10 p q b
  have K := Lib.hid (grown_new P9.out p (Nat.le_of_eq Hsb.out))
  replace S1 := Lib.hid b
  replace E1 := Lib.hid (E1.out.gr K.out); replace E2 := Lib.hid (E2.out.gr K.out); replace E3 := Lib.hid (E3.out.gr K.out); replace E4 := Lib.hid (E4.out.gr K.out); replace E5 := Lib.hid (E5.out.gr K.out); replace E6 := Lib.hid (E6.out.gr K.out); replace A1 := Lib.hid (A1.out.grown K.out (by simp)); replace G := Lib.hid (Lib.grownBy_trans G.out K.out); clear p q b K P9
  have c198 := A1.out.row 198 _ S2.out; rw [Nat.zero_add] at c198
  go_wp2_with fail
  refine (RSetHash _ l.set _ (S0.out.grown G.out) G.out.size Hl.out.set).mono ?_
  rintro e w11 ⟨rfl, g⟩
  rw [HY.out, Hos.out]
  replace E1 := Lib.hid (E1.out.gr g); replace E2 := Lib.hid (E2.out.gr g); replace E3 := Lib.hid (E3.out.gr g); replace E4 := Lib.hid (E4.out.gr g); replace E5 := Lib.hid (E5.out.gr g); replace E6 := Lib.hid (E6.out.gr g); replace S1 := Lib.hid (S1.out.grown g (by simp)); replace G := Lib.hid (Lib.grownBy_trans G.out g); clear g A1 c198
  go_wp2_with (refine wpList_alloc_as rfl 24 rfl ZH ZH_info ?_)
  intro w12 k p g
  have T1 := Lib.hid k; have P9 := Lib.hid p
  have hst := S1.out.lt
  obtain ⟨tb, htb⟩ : ∃ n, w11.heap.size = n := ⟨_, rfl⟩
  rw [htb] at T1 hst ⊢
  have Htb := Lib.hid htb
  have Hwt := Lib.hid (show w.heap.size ≤ tb by rw [← htb]; exact G.out.size)
  have S2 := Lib.hid (S1.out.grown p (by simp))
  clear k p g htb S1
  go_wp2_with (first | (refine wpList_store_whole rfl 24 _ _ rfl tb rfl (Lib.byteCells Y) ZH 24 rfl T1.out (by rw [hy]; rfl) (Lib.byteCells_one _) (sizeH _ hy) ?_))
  intro w13 p q b
  have K := Lib.hid (grown_new P9.out p (Nat.le_of_eq Htb.out))
  replace T1 := Lib.hid b
  have S1 := Lib.hid (S2.out.grown p (by simp; omega))
  replace E1 := Lib.hid (E1.out.gr K.out); replace E2 := Lib.hid (E2.out.gr K.out); replace E3 := Lib.hid (E3.out.gr K.out); replace E4 := Lib.hid (E4.out.gr K.out); replace E5 := Lib.hid (E5.out.gr K.out); replace E6 := Lib.hid (E6.out.gr K.out); replace G := Lib.hid (Lib.grownBy_trans G.out K.out); clear p q b K P9 S2
  go_wp2_with fail
  refine (wanted_any _ _ _ _ _ _ _ _ _ _ E1.out E2.out).mono ?_
  rintro e w' ⟨rfl, rfl⟩
  go_wp2_with fail
  refine (wanted_any _ _ _ _ _ _ _ _ _ _ E3.out E4.out).mono ?_
  rintro e w' ⟨rfl, rfl⟩
  go_wp2_with fail
  refine (wanted_any _ _ _ _ _ _ _ _ _ _ E5.out E6.out).mono ?_
  rintro e w' ⟨rfl, rfl⟩
  clear E1 E2 E3 E4 E5 E6
  cases os with
  | true =>
    have hXY : X = Y := by rw [← HX.out, ← HY.out, Hos.out, refSet_ok Hos.out]; rfl
    subst hXY
    have hc0 : c5 = c5 := rfl
    have hcc : dd = 0 := by rw [← HC.out]; rfl
    subst hcc
    have hv := VEq.bytes X X
    rw [show (X == X) = true from by simp] at hv
    have Hveq := Lib.hid hv
    clear hv hc0
    go_wp2_with fail
    refine (alive_any _).mono ?_
    rintro e w14 ⟨rfl, hb⟩
    have S3 := Lib.hid (S1.out.below hb S1.out.lt); have T3 := Lib.hid (T1.out.below hb T1.out.lt); have G3 := Lib.hid (Lib.grownBy_trans G.out (below_grown hb))
    clear hb S1 T1 G
    go_wp2_with (first | (refine wpList_load_part rfl 24 _ rfl sb 0 rfl (Lib.byteCells X) _ S3.out.row Tryd.underlying24 rfl (sizeH _ hx) ?_) | (refine wpList_load_part rfl 24 _ rfl tb 0 rfl (Lib.byteCells X) _ T3.out.row Tryd.underlying24 rfl (sizeH _ hx) ?_) | (refine wpList_eql_flat rfl 24 _ _ _ rfl (Lib.byteCells X) (Lib.byteCells X) kHash rfl rfl hash_flat (hash_fits _ (by rw [Lib.byteCells_length] at hx; exact hx)) (hash_fits _ (by rw [Lib.byteCells_length] at hx; exact hx)) rfl (by kernel_rfl) ?_; rw [Hveq.out]))
    go_ret
    exact ⟨rfl, below_of_grown G3.out⟩
  | false =>
    have hXZ : X = List.replicate 32 0 := by rw [← HX.out, Hos.out]; rfl
    have hcc : dd = 61 := by rw [← HC.out]; rfl
    subst hcc
    have hv : VEq (Lib.byteCells X) (Lib.byteCells (List.replicate 32 0)) = true := by rw [VEq.bytes, hXZ]; simp
    have Hveq := Lib.hid (show VEq (Lib.byteCells X) ZH = true from hv)
    have fX := hash_fits X (by rw [Lib.byteCells_length] at hx; exact hx)
    have fZ : Fits kHash ZH = true := by kernel_rfl
    clear hv hXZ
    go_wp2_with (first | (refine wpList_build_eq rfl 24 _ rfl [] (by kernel_rfl) ZH bHash0 ?_) | (refine wpList_store_whole rfl 24 _ _ rfl tb rfl ZH (Lib.byteCells Y) 24 rfl T1.out (by rw [hy]; rfl) ZH_one (sizeH _ ZH_length) ?_))
    intro w14 p q b
    replace T1 := Lib.hid b; replace S1 := Lib.hid (S1.out.grown p (by simp; omega)); replace G := Lib.hid (grown_new G.out p Hwt.out)
    clear p q b
    go_wp2_with fail
    refine (alive_any _).mono ?_
    rintro e w14 ⟨rfl, hb⟩
    have S3 := Lib.hid (S1.out.below hb S1.out.lt); have T3 := Lib.hid (T1.out.below hb T1.out.lt); have G3 := Lib.hid (Lib.grownBy_trans G.out (below_grown hb))
    clear hb S1 T1 G
    go_wp2_with (first | (refine wpList_load_part rfl 24 _ rfl sb 0 rfl (Lib.byteCells X) _ S3.out.row Tryd.underlying24 rfl (sizeH _ hx) ?_) | (refine wpList_load_part rfl 24 _ rfl tb 0 rfl ZH _ T3.out.row Tryd.underlying24 rfl (sizeH _ ZH_length) ?_) | (refine wpList_eql_flat rfl 24 _ _ _ rfl (Lib.byteCells X) ZH kHash rfl rfl hash_flat fX fZ rfl (by kernel_rfl) ?_; rw [Hveq.out]))
    go_ret
    exact ⟨rfl, below_of_grown G3.out⟩

end Go.Proofs.YtaffpgafbjhahaaDoor
