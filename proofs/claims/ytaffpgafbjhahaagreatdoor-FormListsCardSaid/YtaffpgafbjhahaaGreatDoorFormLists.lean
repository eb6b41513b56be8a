/- Walk: nunciolaw06.FormLists. -/
import Derived.Test.YtaffpgafbjhahaaGreatDoorQSet
import Derived.Test.YtaffpgafbjhahaaGreatDoorBack
import Derived.Test.YtaffpgafbjhahaaGreatDoorAlive6
import Derived.Test.YtaffpgafbjhahaaGreatDoorLaw
namespace Go.Proofs.YtaffpgafbjhahaaGreatDoor
open Go.RowKit
set_option maxRecDepth 100000

theorem ownB_empty (w : World) : OwnB w.heap.size (.slice (some ⟨w.heap.size, 0, none⟩) 0 0) [] (w.alloc (.cells #[] 5)) := by
  refine ⟨rfl, Or.inr ⟨w.heap.size, 0, _, rfl, Nat.le_refl _, heap_alloc_new w _, Nat.le_refl _, by unfold maxLen; omega, rfl, rfl⟩⟩
theorem own_77 {B n c : Nat} {a : Option Addr} {b : List UInt8} {w : World} (h : OwnB B (.slice a n c) (b ++ [77]) w) :
    ∃ g o, a = some ⟨g, o, none⟩ ∧ n = b.length + 1 ∧ b.length + 1 ≤ c ∧ c ≤ maxLen ∧ g < w.heap.size ∧ RowAt w g o (Lib.byteCells (b ++ [77])) := by
  obtain ⟨ao, c', e, h1, h2, h3⟩ := h.rd
  have hl : (b ++ [77]).length = b.length + 1 := by simp
  injection e with e1 e2 e3
  subst e1 e2 e3
  rcases h3 with ⟨_, h4, _⟩ | ⟨g, o, h4, h5, h6⟩
  · simp at h4
  · exact ⟨g, o, h4, hl, by omega, h2, h5, h6⟩
theorem rd_77 {w : World} {g o c : Nat} {b : List UInt8} (h1 : b.length + 1 ≤ c) (h2 : c ≤ maxLen) (h3 : g < w.heap.size) (h4 : RowAt w g o (Lib.byteCells (b ++ [77]))) : RdB w (.slice (some ⟨g, o, none⟩) b.length c) b :=
  ⟨_, c, rfl, by omega, h2, Or.inr ⟨g, o, rfl, h3, by rw [Lib.byteCells_append] at h4; exact fun j v hj => h4 j v (by rw [List.getElem?_append_left (List.getElem?_eq_some_iff.1 hj).1]; exact hj)⟩⟩
theorem cell_77 {w : World} {g o : Nat} {b : List UInt8} (h4 : RowAt w g o (Lib.byteCells (b ++ [77]))) : w.cell? ⟨g, o + b.length, none⟩ = some (.int .u8 77) := by
  rw [Lib.byteCells_append] at h4
  refine h4 b.length _ ?_
  rw [List.getElem?_append_right (by rw [Lib.byteCells_length]; exact Nat.le_refl _), Lib.byteCells_length, Nat.sub_self]; rfl
theorem RowAt.gr {w w' : World} {g o : Nat} {cs : List Value} (h : RowAt w g o cs) (hg : w.grownBy w' none) : RowAt w' g o cs := h.grown hg (by simp)
theorem lrepGr {B : Nat} {w w' : World} {c : LightD} {cs : List Value} (h : c.rep B w cs) (hg : w.grownBy w' none) : c.rep B w' cs := by
  obtain ⟨a, b, d, h1, h2, h3, h4⟩ := h; exact ⟨a, b, d, rep_grown h1 hg, h2.grown hg, h3.grown hg, h4⟩
theorem sameCommit_refl (c : CommitD) : sameCommit c c = true := by
  unfold sameCommit; rw [VEq.bytes, sameL_refl_seal]; simp
theorem decSet_wf (l : List UInt8) : ((decSet l).getD []).length ≤ maxLen := by
  unfold decSet
  split
  · exact Nat.le_trans (rdSet_len _) (by unfold maxLen; omega)
  · exact Nat.zero_le _
theorem decLight_wf2 (l : List UInt8) : ((decLight l).getD zLight).wf := by
  cases h : decLight l with
  | none => exact zLight_wf
  | some d => exact decLight_wf h

set_option maxHeartbeats 4000000 in
theorem FormLists_any (v : Value) (b : List UInt8) (w : World) (hv : RdB w v b) :
    Calls Tryz.prog 3 #[v] w (LawTrue w) := by
  have Hv := Lib.hid hv
  obtain ⟨ao, c, rfl, hle, hcm, hrow⟩ := hv
  have hcm' : c ≤ 9223372036854775807 := hcm
  clear hrow
  by_cases hbig : b.length ≤ 20000
  case neg =>
    have d1 : decide ((20000 : Int) < (b.length : Int)) = true := by simp; omega
    go_enter Tryz.func3, Tryz.ntmps3
    go_wp2_with fail
    refine (alive_any _).mono ?_
    rintro e w' ⟨rfl, hb⟩
    go_wp2_with fail
    go_ret
    exact ⟨rfl, hb⟩
  have d1 : decide ((20000 : Int) < (b.length : Int)) = false := by simp; omega
  go_enter Tryz.func3, Tryz.ntmps3
  go_upto_region 3 with (fail)
  clear d1
  go_wp2_with (first | (refine wpList_app rfl _ _ rfl rfl (ownB_empty w) rfl (Hv.out.grown (World.grownBy_alloc w _ none)) (by simp; omega) (by simp) ?_; intro a1 n1 c1 w1 o1 b1; rw [List.nil_append] at o1) | (refine wpList_app_one rfl _ _ rfl rfl o1 77 rfl rfl (by simp; omega) (by have := b1.size; simp at this; omega) ?_; intro a2 n2 c2 w2 o2 b2; obtain ⟨g, o, rfl, rfl, hc2, hm2, hg2, hr2⟩ := own_77 o2))
  have G := Lib.hid (below_grown (((Below.refl w.heap.size w).alloc (Nat.le_refl _) _).trans (b1.trans b2)))
  have Hc2 := Lib.hid hc2; have Hm2 := Lib.hid hm2; have Hg := Lib.hid hg2; have Hr := Lib.hid hr2
  clear b1 b2 hc2 hm2 hg2 hr2 o1 o2
  go_wp2_with fail
  refine (DecodeSet_any _ b _ (rd_77 Hc2.out Hm2.out Hg.out Hr.out) (by omega)).mono ?_
  rintro e w3 ⟨hb, a3, n3, k3, rfl, o3⟩
  obtain ⟨ds, hds⟩ : ∃ x, (decSet b).getD [] = x := ⟨_, rfl⟩
  obtain ⟨es, hes⟩ : ∃ x, errOf (decSet b) = x := ⟨_, rfl⟩
  rw [hds] at o3; rw [hes]
  have Hds := Lib.hid hds; have Hes := Lib.hid hes
  have S1 := Lib.hid (rds_of_own o3)
  have k := below_grown hb
  replace G := Lib.hid (Lib.grownBy_trans G.out k); replace Hr := Lib.hid (Hr.out.gr k); replace Hg := Lib.hid (Nat.lt_of_lt_of_le Hg.out k.size)
  clear hb o3 hds hes k
  go_wp2_with fail
  refine (ReadSet_any _ b _ (Hv.out.grown G.out)).mono ?_
  rintro e w4 ⟨hb, a4, n4, k4, rfl, o4⟩
  rw [Hds.out] at o4; rw [Hes.out]
  have S2 := Lib.hid (rds_of_own o4)
  have k := below_grown hb
  replace G := Lib.hid (Lib.grownBy_trans G.out k); replace Hr := Lib.hid (Hr.out.gr k); replace Hg := Lib.hid (Nat.lt_of_lt_of_le Hg.out k.size)
  replace S1 := Lib.hid ((S1.out.grown k).mono k.size)
  clear hb o4 k
  go_wp2_with fail
  refine (DecodeCommit_any _ b _ (rd_77 Hc2.out Hm2.out Hg.out Hr.out) (by omega)).mono ?_
  rintro e w5 ⟨hb, cs5, rfl, o5⟩
  obtain ⟨dc, hdc⟩ : ∃ x, (decCommit b).getD zCommit = x := ⟨_, rfl⟩
  obtain ⟨ec, hec⟩ : ∃ x, errOf (decCommit b) = x := ⟨_, rfl⟩
  rw [hdc] at o5; rw [hec]
  have Wc := Lib.hid (show dc.wf from hdc ▸ decCommit_wf b)
  have Hdc := Lib.hid hdc; have Hec := Lib.hid hec
  have L5 := Lib.hid (o5.rep.length Wc.out); have N5 := Lib.hid o5.one
  have C1 := Lib.hid o5.rep
  have k := below_grown hb
  replace G := Lib.hid (Lib.grownBy_trans G.out k); replace Hr := Lib.hid (Hr.out.gr k); replace Hg := Lib.hid (Nat.lt_of_lt_of_le Hg.out k.size)
  replace S1 := Lib.hid ((S1.out.grown k).mono k.size); replace S2 := Lib.hid ((S2.out.grown k).mono k.size)
  clear hb o5 k hdc hec
  go_wp2_with (refine wpList_alloc_as rfl 32 rfl ZCommit ZCommit_info ?_)
  intro w6 b6 g6 s6
  have B6 := Lib.hid b6; have K := Lib.hid g6; clear b6 g6 s6
  go_wp2_with (refine wpList_store_whole rfl 32 _ _ rfl w5.heap.size rfl cs5 ZCommit 32 rfl B6.out (by rw [L5.out]; rfl) N5.out (by rw [L5.out]; exact sizeCommit) ?_)
  intro w7 g7 s7 b7
  have M5 := Lib.hid b7
  have k := grown_new K.out g7 (Nat.le_refl _)
  replace G := Lib.hid (Lib.grownBy_trans G.out k); replace Hr := Lib.hid (Hr.out.gr k); replace Hg := Lib.hid (Nat.lt_of_lt_of_le Hg.out k.size)
  replace S1 := Lib.hid ((S1.out.grown k).mono k.size); replace S2 := Lib.hid ((S2.out.grown k).mono k.size); replace C1 := Lib.hid ((rep_grown C1.out k).mono k.size)
  clear b7 g7 s7 k K B6
  go_wp2_with fail
  refine (ReadCommit_any _ b _ (Hv.out.grown G.out)).mono ?_
  rintro e w8 ⟨hb, cs8, rfl, o8⟩
  rw [Hdc.out] at o8; rw [Hec.out]
  have L8 := Lib.hid (o8.rep.length Wc.out); have N8 := Lib.hid o8.one
  have C2 := Lib.hid o8.rep
  have k := below_grown hb
  replace G := Lib.hid (Lib.grownBy_trans G.out k); replace Hr := Lib.hid (Hr.out.gr k); replace Hg := Lib.hid (Nat.lt_of_lt_of_le Hg.out k.size)
  replace S1 := Lib.hid ((S1.out.grown k).mono k.size); replace S2 := Lib.hid ((S2.out.grown k).mono k.size); replace C1 := Lib.hid ((rep_grown C1.out k).mono k.size); replace M5 := Lib.hid (M5.out.grown k (by simp))
  clear hb o8 k
  go_wp2_with (refine wpList_alloc_as rfl 32 rfl ZCommit ZCommit_info ?_)
  intro w9 b9 g9 s9
  have B6 := Lib.hid b9; have K := Lib.hid g9; clear b9 g9 s9
  go_wp2_with (refine wpList_store_whole rfl 32 _ _ rfl w8.heap.size rfl cs8 ZCommit 32 rfl B6.out (by rw [L8.out]; rfl) N8.out (by rw [L8.out]; exact sizeCommit) ?_)
  intro w10 g10 s10 b10
  have M8 := Lib.hid b10
  have k := grown_new K.out g10 (Nat.le_refl _)
  replace G := Lib.hid (Lib.grownBy_trans G.out k); replace Hr := Lib.hid (Hr.out.gr k); replace Hg := Lib.hid (Nat.lt_of_lt_of_le Hg.out k.size)
  replace S1 := Lib.hid ((S1.out.grown k).mono k.size); replace S2 := Lib.hid ((S2.out.grown k).mono k.size); replace C1 := Lib.hid ((rep_grown C1.out k).mono k.size); replace C2 := Lib.hid ((rep_grown C2.out k).mono k.size); replace M5 := Lib.hid (M5.out.grown k (by simp))
  clear b10 g10 s10 k K B6
  go_wp2_with fail
  refine (DecodeLight_any _ b _ (rd_77 Hc2.out Hm2.out Hg.out Hr.out) (by omega)).mono ?_
  intro e w11 hd
  obtain ⟨hb, cs11, rfl, o11⟩ := hd.uni
  clear hd
  obtain ⟨dl, hdl⟩ : ∃ x, (decLight b).getD zLight = x := ⟨_, rfl⟩
  obtain ⟨el, hel⟩ : ∃ x, errOf (decLight b) = x := ⟨_, rfl⟩
  rw [hdl] at o11; rw [hel]
  have Wl := Lib.hid (show dl.wf from hdl ▸ decLight_wf2 b)
  have Hdl := Lib.hid hdl; have Hel := Lib.hid hel
  have L11 := Lib.hid (o11.rep.length Wl.out); have N11 := Lib.hid o11.one
  have D1 := Lib.hid o11.rep
  have k := below_grown hb
  replace G := Lib.hid (Lib.grownBy_trans G.out k); replace Hr := Lib.hid (Hr.out.gr k); replace Hg := Lib.hid (Nat.lt_of_lt_of_le Hg.out k.size)
  replace S1 := Lib.hid ((S1.out.grown k).mono k.size); replace S2 := Lib.hid ((S2.out.grown k).mono k.size); replace C1 := Lib.hid ((rep_grown C1.out k).mono k.size); replace C2 := Lib.hid ((rep_grown C2.out k).mono k.size); replace M5 := Lib.hid (M5.out.grown k (by simp)); replace M8 := Lib.hid (M8.out.grown k (by simp))
  clear hb o11 k hdl hel
  go_wp2_with (refine wpList_alloc_as rfl 38 rfl ZLight ZLight_info ?_)
  intro w12 b12 g12 s12
  have B6 := Lib.hid b12; have K := Lib.hid g12; clear b12 g12 s12
  go_wp2_with (refine wpList_store_whole rfl 38 _ _ rfl w11.heap.size rfl cs11 ZLight 38 rfl B6.out (by rw [L11.out]; rfl) N11.out (sizeLight _ L11.out) ?_)
  intro w13 g13 s13 b13
  have M11 := Lib.hid b13
  have k := grown_new K.out g13 (Nat.le_refl _)
  replace G := Lib.hid (Lib.grownBy_trans G.out k); replace Hr := Lib.hid (Hr.out.gr k); replace Hg := Lib.hid (Nat.lt_of_lt_of_le Hg.out k.size)
  replace S1 := Lib.hid ((S1.out.grown k).mono k.size); replace S2 := Lib.hid ((S2.out.grown k).mono k.size); replace C1 := Lib.hid ((rep_grown C1.out k).mono k.size); replace C2 := Lib.hid ((rep_grown C2.out k).mono k.size); replace D1 := Lib.hid ((lrepGr D1.out k).mono k.size); replace M5 := Lib.hid (M5.out.grown k (by simp)); replace M8 := Lib.hid (M8.out.grown k (by simp))
  clear b13 g13 s13 k K B6
  go_wp2_with fail
  refine (ReadLight_any _ b _ (Hv.out.grown G.out)).mono ?_
  rintro e w14 ⟨hb, cs14, rfl, o14⟩
  rw [Hdl.out] at o14; rw [Hel.out]
  have L14 := Lib.hid (o14.rep.length Wl.out); have N14 := Lib.hid o14.one
  have D2 := Lib.hid o14.rep
  have k := below_grown hb
  replace G := Lib.hid (Lib.grownBy_trans G.out k); replace Hr := Lib.hid (Hr.out.gr k); replace Hg := Lib.hid (Nat.lt_of_lt_of_le Hg.out k.size)
  replace S1 := Lib.hid ((S1.out.grown k).mono k.size); replace S2 := Lib.hid ((S2.out.grown k).mono k.size); replace C1 := Lib.hid ((rep_grown C1.out k).mono k.size); replace C2 := Lib.hid ((rep_grown C2.out k).mono k.size); replace D1 := Lib.hid ((lrepGr D1.out k).mono k.size); replace M5 := Lib.hid (M5.out.grown k (by simp)); replace M8 := Lib.hid (M8.out.grown k (by simp)); replace M11 := Lib.hid (M11.out.grown k (by simp))
  clear hb o14 k
  go_wp2_with (refine wpList_alloc_as rfl 38 rfl ZLight ZLight_info ?_)
  intro w15 b15 g15 s15
  have B6 := Lib.hid b15; have K := Lib.hid g15; clear b15 g15 s15
  go_wp2_with (refine wpList_store_whole rfl 38 _ _ rfl w14.heap.size rfl cs14 ZLight 38 rfl B6.out (by rw [L14.out]; rfl) N14.out (sizeLight _ L14.out) ?_)
  intro w16 g16 s16 b16
  have M14 := Lib.hid b16
  have k := grown_new K.out g16 (Nat.le_refl _)
  replace G := Lib.hid (Lib.grownBy_trans G.out k); replace Hr := Lib.hid (Hr.out.gr k); replace Hg := Lib.hid (Nat.lt_of_lt_of_le Hg.out k.size)
  replace S1 := Lib.hid ((S1.out.grown k).mono k.size); replace S2 := Lib.hid ((S2.out.grown k).mono k.size); replace C1 := Lib.hid ((rep_grown C1.out k).mono k.size); replace C2 := Lib.hid ((rep_grown C2.out k).mono k.size); replace D1 := Lib.hid ((lrepGr D1.out k).mono k.size); replace D2 := Lib.hid ((lrepGr D2.out k).mono k.size); replace M5 := Lib.hid (M5.out.grown k (by simp)); replace M8 := Lib.hid (M8.out.grown k (by simp)); replace M11 := Lib.hid (M11.out.grown k (by simp))
  clear b16 g16 s16 k K B6
  clear Hds Hes Hdc Hec Hdl Hel N5 N8 N11 N14
  go_wp2_with fail
  refine (SameSet_any _ _ ds ds _ S1.out S2.out (Nat.le_refl _)).mono ?_
  rintro e w17 ⟨rfl, k⟩
  rw [sameL_refl_val]
  replace G := Lib.hid (Lib.grownBy_trans G.out k); replace Hr := Lib.hid (Hr.out.gr k); replace Hg := Lib.hid (Nat.lt_of_lt_of_le Hg.out k.size)
  replace C1 := Lib.hid ((rep_grown C1.out k).mono k.size); replace C2 := Lib.hid ((rep_grown C2.out k).mono k.size); replace D1 := Lib.hid ((lrepGr D1.out k).mono k.size); replace D2 := Lib.hid ((lrepGr D2.out k).mono k.size); replace M5 := Lib.hid (M5.out.grown k (by simp)); replace M8 := Lib.hid (M8.out.grown k (by simp)); replace M11 := Lib.hid (M11.out.grown k (by simp)); replace M14 := Lib.hid (M14.out.grown k (by simp))
  clear k S1 S2
  go_wp2_with (first | (refine wpList_load_part rfl 32 _ rfl w5.heap.size 0 rfl cs5 _ M5.out.row Tryz.underlying32 rfl (by rw [L5.out]; exact sizeCommit) ?_) | (refine wpList_load_part rfl 32 _ rfl w8.heap.size 0 rfl cs8 _ M8.out.row Tryz.underlying32 rfl (by rw [L8.out]; exact sizeCommit) ?_))
  refine (SameCommit_any dc dc cs5 cs8 _ C1.out C2.out Wc.out Wc.out (Nat.le_refl _)).mono ?_
  rintro e w18 ⟨rfl, k⟩
  rw [sameCommit_refl]
  replace G := Lib.hid (Lib.grownBy_trans G.out k); replace Hr := Lib.hid (Hr.out.gr k); replace Hg := Lib.hid (Nat.lt_of_lt_of_le Hg.out k.size)
  replace D1 := Lib.hid ((lrepGr D1.out k).mono k.size); replace D2 := Lib.hid ((lrepGr D2.out k).mono k.size); replace M11 := Lib.hid (M11.out.grown k (by simp)); replace M14 := Lib.hid (M14.out.grown k (by simp))
  clear k C1 C2 M5 M8
  go_wp2_with (first | (refine wpList_load_part rfl 38 _ rfl w11.heap.size 0 rfl cs11 _ M11.out.row Tryz.underlying38 rfl (sizeLight _ L11.out) ?_) | (refine wpList_load_part rfl 38 _ rfl w14.heap.size 0 rfl cs14 _ M14.out.row Tryz.underlying38 rfl (sizeLight _ L14.out) ?_))
  refine (SameLight_any dl dl cs11 cs14 _ D1.out D2.out Wl.out Wl.out (Nat.le_refl _)).mono ?_
  rintro e w19 ⟨rfl, k⟩
  rw [sameLight_refl]
  replace G := Lib.hid (Lib.grownBy_trans G.out k); replace Hr := Lib.hid (Hr.out.gr k); replace Hg := Lib.hid (Nat.lt_of_lt_of_le Hg.out k.size)
  clear k D1 D2 M11 M14
  go_wp2_with fail
  refine (Same_any _ _ b b _ (rd_77 Hc2.out Hm2.out Hg.out Hr.out) (Hv.out.grown G.out)).mono ?_
  rintro e w' ⟨rfl, rfl⟩
  rw [show (b == b) = true from by simp]
  go_wp2_with fail
  refine (alive_any _).mono ?_
  rintro e w20 ⟨rfl, hb⟩
  have k := below_grown hb
  replace G := Lib.hid (Lib.grownBy_trans G.out k); replace Hr := Lib.hid (Hr.out.gr k)
  clear hb k
  have c77 := cell_77 Hr.out
  have hcle := Hc2.out
  have hml : c2 ≤ 9223372036854775807 := Hm2.out
  go_wp2_with fail
  go_ret
  exact ⟨rfl, below_of_grown G.out⟩

end Go.Proofs.YtaffpgafbjhahaaGreatDoor
