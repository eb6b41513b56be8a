/- Walks: forms.checkCommit, putCommit, putHeader. -/
import Derived.Test.YtaffpgafbjhahaaDoorEncL
import Derived.Test.YtaffpgafbjhahaaDoorBuildS
namespace Go.Proofs.YtaffpgafbjhahaaDoor
open Go.RowKit
set_option maxRecDepth 100000

theorem commit_cells {B : Nat} {w : World} {c : CommitD} {cs : List Value} (h : c.rep B w cs) : cs[0]? = some (.int .i64 c.height) ∧ cs[1]? = some (.int .i64 c.round) := by
  obtain ⟨sl, _, rfl⟩ := h; exact ⟨rfl, rfl⟩
theorem commit_block {B : Nat} {w : World} {c : CommitD} {cs : List Value} (h : c.rep B w cs) (hc : c.wf) : (cs.drop 2).take 32 = Lib.byteCells c.block := by
  obtain ⟨sl, _, rfl⟩ := h
  simp [List.take_append, Lib.byteCells_length, hc.block, List.take_of_length_le]
theorem commit_seals {B : Nat} {w : World} {c : CommitD} {cs : List Value} (h : c.rep B w cs) (hc : c.wf) : ∃ sl, RdS B w sl c.seals.length 3 (sealCells c.seals) ∧ cs[34]? = some sl := by
  obtain ⟨sl, h1, rfl⟩ := h
  exact ⟨sl, h1, by simp [List.getElem?_append, Lib.byteCells_length, hc.block]⟩
theorem sizeCommit : (Tryd.prog.info? 68).map (·.size) = some 35 := by kernel_rfl
theorem sizeHdr : (Tryd.prog.info? 57).map (·.size) = some 163 := by kernel_rfl

set_option maxHeartbeats 400000 in
theorem checkCommit_any (c : CommitD) (cs : List Value) (w : World) (h0 : cs[0]? = some (.int .i64 c.height)) (h1 : cs[1]? = some (.int .i64 c.round)) :
    Calls Tryd.prog 95 #[.agg cs.toArray] w (RetB (okCommit c) w) := by
  obtain ⟨W, hW, hblk, hrow, hf, hb, hsz⟩ := box_as w cs 68
  have c0 := hrow 0 _ h0; rw [Nat.zero_add] at c0
  have c1 := hrow 1 _ h1; rw [Nat.zero_add] at c1
  have HW := Lib.hid hW; have HB := Lib.hid hb
  clear hW hblk hrow hf hb hsz h0 h1
  go_enter Tryd.func95, Tryd.ntmps95
  go_upto_region 1 with (fail)
  rw [HW.out]
  go_wp2_with fail
  cases h1 : inR c.height 1 1099511627776
  · refine (within_f _ _ _ _ h1).mono ?_
    rintro e w' ⟨rfl, rfl⟩
    exact ⟨rfl, RetB.no (by simp only [okCommit, h1, Bool.false_and]) HB.out⟩
  refine (within_t _ _ _ _ h1).mono ?_
  rintro e w' ⟨rfl, rfl⟩
  have H1 := Lib.hid h1; clear h1
  go_wp2_with fail
  cases h2 : inR c.round 0 1048576
  · refine (within_f _ _ _ _ h2).mono ?_
    rintro e w' ⟨rfl, rfl⟩
    exact ⟨rfl, RetB.no (by simp only [okCommit, h2, Bool.and_false]) HB.out⟩
  refine (within_t _ _ _ _ h2).mono ?_
  rintro e w' ⟨rfl, rfl⟩
  have H2 := Lib.hid h2; clear h2
  go_wp2_with fail
  go_end0
  exact RetB.yes (by simp only [okCommit, H1.out, H2.out, Bool.and_self]) HB.out
theorem checkCommit_t (c : CommitD) (cs : List Value) (w : World) (h0 : cs[0]? = some (.int .i64 c.height)) (h1 : cs[1]? = some (.int .i64 c.round)) (h : okCommit c = true) : Calls Tryd.prog 95 #[.agg cs.toArray] w fun e w' => e = .returned (.tuple #[]) ∧ Below w.heap.size w w' :=
  (checkCommit_any c cs w h0 h1).mono fun e w' hp => by unfold RetB at hp; rw [h] at hp; exact hp
theorem checkCommit_f (c : CommitD) (cs : List Value) (w : World) (h0 : cs[0]? = some (.int .i64 c.height)) (h1 : cs[1]? = some (.int .i64 c.round)) (h : okCommit c = false) : Calls Tryd.prog 95 #[.agg cs.toArray] w fun e w' => e = .panicked wrongP ∧ Below w.heap.size w w' :=
  (checkCommit_any c cs w h0 h1).mono fun e w' hp => by unfold RetB at hp; rw [h] at hp; exact hp

theorem encSeals_take (ds : List SealD) (k : Nat) (h : k < ds.length) : encSeals (ds.take (k + 1)) = encSeals (ds.take k) ++ be64 ds[k].key ++ be64 ds[k].r ++ be64 ds[k].s := by
  have e : ∀ (l : List SealD) (v : SealD), encSeals (l ++ [v]) = encSeals l ++ encSeal v := by simp [encSeals]
  rw [List.take_succ_eq_append_getElem h, e, encSeal]; simp only [List.append_assoc]

set_option maxHeartbeats 1000000 in
theorem putCommit_yes {b L : Nat} {w1 w : World} {bs : List UInt8} (h : St b w1 bs L w) (hL : L ≤ 100000000) (c : CommitD) (cs : List Value) (hr : c.rep b w cs) (hc : c.wf) (hok : okCommit c = true) (hn : c.seals.length ≤ 64) :
    Calls Tryd.prog 88 #[.pointer (some ⟨b, 0, none⟩), .agg cs.toArray] w fun e w' => e = .returned (.tuple #[]) ∧ St b w1 (bs ++ encCommit c) (L + 1600) w' ∧ Below b w w' := by
  obtain ⟨h0, h1⟩ := commit_cells hr
  have hblock := commit_block hr hc
  obtain ⟨sl, hsl, h34⟩ := commit_seals hr hc
  have hlen := hr.length hc
  obtain ⟨W, hW, hblk, hrow, hf, hb, hsz⟩ := box_as w cs 68
  have HW := Lib.hid hW; have B := Lib.hid (show Blk W w.heap.size cs 68 from hblk)
  have S := Lib.hid (h.over hb); have K := Lib.hid (hb.mono h.lt)
  have hlt := h.isW.lt
  have Hlen := Lib.hid hlen; have H0 := Lib.hid h0; have H1 := Lib.hid h1; have H34 := Lib.hid h34; have Hblock := Lib.hid hblock; have Hc := Lib.hid hc
  have Hsl := Lib.hid (hsl.below hb (by omega)); have Hok := Lib.hid hok
  clear hW hblk hrow hf hb hsz h h0 h1 hblock hsl h34 hlen hr hc hok
  go_enter Tryd.func88, Tryd.ntmps88
  go_upto_region 1 with (fail)
  rw [HW.out]
  clear HW
  go_wp2_with (refine wpList_load_part rfl 68 _ rfl w.heap.size 0 rfl cs _ B.out.row Tryd.underlying68 rfl (by rw [Hlen.out]; exact sizeCommit) ?_)
  refine (checkCommit_t c cs _ H0.out H1.out Hok.out).mono ?_
  rintro e w2 ⟨rfl, hb⟩
  replace K := Lib.hid (K.out.trans (hb.mono S.out.lt)); replace B := Lib.hid (B.out.below hb B.out.lt); replace Hsl := Lib.hid (Hsl.out.below hb S.out.lt); replace S := Lib.hid (S.out.over hb)
  clear hb
  go_wp2_with fail
  refine (Number_st S.out (by omega) _).mono ?_
  rintro e w3 ⟨rfl, k1, k2⟩
  replace S := Lib.hid k1; replace K := Lib.hid (K.out.trans k2.1); replace B := Lib.hid (B.out.kept k2.2 (by decide) (by omega)); replace Hsl := Lib.hid (Hsl.out.below k2.1 (Nat.le_refl _)); clear k1 k2
  have c0 := B.out.row 0 _ H0.out; rw [Nat.zero_add] at c0
  go_wp2_with fail
  refine (Number_st S.out (by omega) _).mono ?_
  rintro e w4 ⟨rfl, k1, k2⟩
  replace S := Lib.hid k1; replace K := Lib.hid (K.out.trans k2.1); replace B := Lib.hid (B.out.kept k2.2 (by decide) (by omega)); replace Hsl := Lib.hid (Hsl.out.below k2.1 (Nat.le_refl _)); clear k1 k2 c0
  have c0 := B.out.row 1 _ H1.out; rw [Nat.zero_add] at c0
  go_wp2_with fail
  refine (Number_st S.out (by omega) _).mono ?_
  rintro e w5 ⟨rfl, k1, k2⟩
  replace S := Lib.hid k1; replace K := Lib.hid (K.out.trans k2.1); replace B := Lib.hid (B.out.kept k2.2 (by decide) (by omega)); replace Hsl := Lib.hid (Hsl.out.below k2.1 (Nat.le_refl _)); clear k1 k2 c0
  have HR := Lib.hid (show RowAt w5 w.heap.size 2 (Lib.byteCells c.block) by have := B.out.row.part 2 32; rwa [Hblock.out, Nat.zero_add] at this)
  go_wp2_with (refine wpList_load_part rfl 24 _ rfl w.heap.size 2 rfl (Lib.byteCells c.block) _ HR.out Tryd.underlying24 rfl (hash_size _ Hc.out.block) ?_)
  refine (Hash_st S.out (by omega) _ Hc.out.block).mono ?_
  rintro e w6 ⟨rfl, k1, k2⟩
  replace S := Lib.hid k1; replace K := Lib.hid (K.out.trans k2.1); replace B := Lib.hid (B.out.kept k2.2 (by decide) (by omega)); replace Hsl := Lib.hid (Hsl.out.below k2.1 (Nat.le_refl _)); clear k1 k2 HR
  obtain ⟨ao, cp, hv, hle, hcm, _, hrow⟩ := Hsl.out
  subst hv
  have Hrow := Lib.hid hrow
  unfold maxLen at hcm
  have c0 := B.out.row 34 _ H34.out; rw [Nat.zero_add] at c0
  clear hrow Hsl
  go_wp2_with (go_at_call 56; refine (many_yes _ _ _ (by omega)).mono ?_; rintro e w' ⟨rfl, rfl⟩)
  refine (Number_st S.out (by omega) _).mono ?_
  rintro e w7 ⟨rfl, k1, k2⟩
  replace S := Lib.hid k1; replace K := Lib.hid (K.out.trans k2.1); replace B := Lib.hid (B.out.kept k2.2 (by decide) (by omega))
  replace Hrow : Hid ((ao = none ∧ c.seals.length = 0 ∧ cp = 0) ∨ ∃ g o, ao = some ⟨g, o, none⟩ ∧ g < b ∧ RowAt w7 g o (sealCells c.seals)) := by
    rcases Hrow.out with h | ⟨g, o, e, hg, hr⟩
    · exact Lib.hid (Or.inl h)
    · exact Lib.hid (Or.inr ⟨g, o, e, hg, hr.below k2.1 hg⟩)
  clear k1 k2 c0
  have c0 := B.out.row 34 _ H34.out; rw [Nat.zero_add] at c0
  go_wp2_with fail
  clear c0
  go_loopw [31] (fun i wr => ∃ k : Nat, k ≤ c.seals.length ∧ i = .int .i64 k ∧ St b w1 (bs ++ be64 4 ++ be64 c.height ++ be64 c.round ++ c.block ++ be64 c.seals.length ++ encSeals (c.seals.take k)) (L + 8 + 8 + 8 + 32 + 8 + 24 * k) wr ∧ Below b w7 wr) (fun i _ => c.seals.length - (intOf i).toNat)
  case atStart => exact ⟨0, Nat.zero_le _, rfl, by simpa [encSeals] using S.out, Below.refl _ _⟩
  case round =>
    obtain ⟨k, hk, rfl, hs, hb⟩ := hrel
    have Hs := Lib.hid hs; have Hb := Lib.hid hb; clear hs hb
    by_cases hlt : k < c.seals.length
    · rcases Hrow.out with ⟨_, h0, _⟩ | ⟨g, o, rfl, hg, hrow⟩
      · omega
      have R := Lib.hid (RowAt.elem (hrow.below Hb.out hg) (fun d _ => d.cells_length) k hlt)
      obtain ⟨d, hd⟩ : ∃ d, d = c.seals[k] := ⟨_, rfl⟩
      rw [← hd] at R
      have Hwd := Lib.hid (Hc.out.seals d (by rw [hd]; exact List.getElem_mem _))
      have Ht := Lib.hid (encSeals_take c.seals k hlt)
      rw [← hd] at Ht
      clear hd hrow hg
      go_wp2_with (first | (refine wpList_load_part rfl 153 _ rfl g (o + k * 3) rfl d.cells _ R.out Tryd.underlying153 rfl sizeSeal ?_) | (refine wpList_alloc_as rfl 153 rfl ZSeal ZSeal_info ?_))
      intro w8 b4 g4 s4
      have B4 := Lib.hid b4; have G4 := Lib.hid g4; clear b4 g4 s4
      go_wp2_with (refine wpList_store_whole rfl 153 _ _ rfl wr.heap.size rfl d.cells ZSeal 153 rfl B4.out rfl (SealD_one d) sizeSeal ?_)
      intro w9 g5 s5 b5
      have hm : b < wr.heap.size := Hs.out.isW.lt
      have Gn := Lib.hid (grown_new G4.out g5 (Nat.le_refl _))
      have S5 := Lib.hid (Hs.out.grown Gn.out)
      have c := b5.row 0 _ rfl; rw [Nat.zero_add] at c
      have B5 := Lib.hid b5; clear b5 g5 s5
      go_wp2_with fail
      refine (Word_st S5.out (by omega) _ Hwd.out.1).mono ?_
      rintro e w10 ⟨rfl, k1, k2⟩
      have S6 := Lib.hid k1
      have B6 := Lib.hid (B5.out.kept k2.2 (by decide) (by omega))
      have K6 := Lib.hid ((WK.over (WK.refl b b wr) Gn.out (by omega)).trans k2.1)
      clear k1 k2 c
      have c := B6.out.row 1 _ rfl; rw [Nat.zero_add] at c
      go_wp2_with fail
      refine (Word_st S6.out (by omega) _ Hwd.out.2.1).mono ?_
      rintro e w11 ⟨rfl, k1, k2⟩
      have S7 := Lib.hid k1
      have B7 := Lib.hid (B6.out.kept k2.2 (by decide) (by omega))
      have K7 := Lib.hid (K6.out.trans k2.1)
      clear k1 k2 c
      have c := B7.out.row 2 _ rfl; rw [Nat.zero_add] at c
      go_wp2_with fail
      refine (Word_st S7.out (by omega) _ Hwd.out.2.2).mono ?_
      rintro e w12 ⟨rfl, k1, k2⟩
      have S8 := Lib.hid k1
      have K8 := Lib.hid (K7.out.trans k2.1)
      clear k1 k2 c
      go_wp2_with fail
      refine ⟨⟨k + 1, by omega, by go_num, S8.out.put ?_ (by omega), Hb.out.trans K8.out⟩, by simp [intOf]; omega⟩
      rw [Ht.out]; simp only [List.append_assoc]
    · obtain rfl : k = c.seals.length := by omega
      go_wp2_with fail
      go_end0
      refine ⟨rfl, Hs.out.put ?_ (by omega), K.out.trans Hb.out⟩
      rw [List.take_of_length_le (Nat.le_refl _)]; simp only [encCommit, List.append_assoc]

set_option maxHeartbeats 400000 in
theorem putCommit_bad {b L : Nat} {w1 w : World} {bs : List UInt8} (h : St b w1 bs L w) (c : CommitD) (cs : List Value) (hr : c.rep b w cs) (hc : c.wf) (hok : okCommit c = false) :
    Calls Tryd.prog 88 #[.pointer (some ⟨b, 0, none⟩), .agg cs.toArray] w fun e w' => e = .panicked wrongP ∧ Below b w w' := by
  obtain ⟨h0, h1⟩ := commit_cells hr
  have hlen := hr.length hc
  obtain ⟨W, hW, hblk, hrow, hf, hb, hsz⟩ := box_as w cs 68
  have HW := Lib.hid hW; have B := Lib.hid (show Blk W w.heap.size cs 68 from hblk)
  have K := Lib.hid (hb.mono h.lt)
  have hlt := h.lt
  have Hlen := Lib.hid hlen; have H0 := Lib.hid h0; have H1 := Lib.hid h1; have Hok := Lib.hid hok; have Hs := Lib.hid hb.size
  clear hW hblk hrow hf hb hsz h h0 h1 hlen hr hc hok
  go_enter Tryd.func88, Tryd.ntmps88
  go_upto_region 1 with (fail)
  rw [HW.out]
  clear HW
  go_wp2_with (refine wpList_load_part rfl 68 _ rfl w.heap.size 0 rfl cs _ B.out.row Tryd.underlying68 rfl (by rw [Hlen.out]; exact sizeCommit) ?_)
  refine (checkCommit_f c cs _ H0.out H1.out Hok.out).mono ?_
  rintro e w2 ⟨rfl, hb⟩
  exact ⟨rfl, rfl, K.out.trans (hb.mono (by have := Hs.out; omega))⟩

set_option maxHeartbeats 1000000 in
theorem putCommit_many {b L : Nat} {w1 w : World} {bs : List UInt8} (h : St b w1 bs L w) (hL : L ≤ 100000000) (c : CommitD) (cs : List Value) (hr : c.rep b w cs) (hc : c.wf) (hok : okCommit c = true) (hn : 64 < c.seals.length) :
    Calls Tryd.prog 88 #[.pointer (some ⟨b, 0, none⟩), .agg cs.toArray] w fun e w' => e = .panicked wrongP ∧ Below b w w' := by
  obtain ⟨h0, h1⟩ := commit_cells hr
  have hblock := commit_block hr hc
  obtain ⟨sl, hsl, h34⟩ := commit_seals hr hc
  have hlen := hr.length hc
  obtain ⟨W, hW, hblk, hrow, hf, hb, hsz⟩ := box_as w cs 68
  have HW := Lib.hid hW; have B := Lib.hid (show Blk W w.heap.size cs 68 from hblk)
  have S := Lib.hid (h.over hb); have K := Lib.hid (hb.mono h.lt)
  have hlt := h.isW.lt
  have Hlen := Lib.hid hlen; have H0 := Lib.hid h0; have H1 := Lib.hid h1; have H34 := Lib.hid h34; have Hblock := Lib.hid hblock; have Hc := Lib.hid hc
  have Hok := Lib.hid hok
  obtain ⟨ao, cp, hv, hle, hcm, _, hrow2⟩ := hsl
  subst hv
  unfold maxLen at hcm
  clear hW hblk hrow hf hb hsz h h0 h1 hblock h34 hlen hr hc hok hrow2
  go_enter Tryd.func88, Tryd.ntmps88
  go_upto_region 1 with (fail)
  rw [HW.out]
  clear HW
  go_wp2_with (refine wpList_load_part rfl 68 _ rfl w.heap.size 0 rfl cs _ B.out.row Tryd.underlying68 rfl (by rw [Hlen.out]; exact sizeCommit) ?_)
  refine (checkCommit_t c cs _ H0.out H1.out Hok.out).mono ?_
  rintro e w2 ⟨rfl, hb⟩
  replace K := Lib.hid (K.out.trans (hb.mono S.out.lt)); replace B := Lib.hid (B.out.below hb B.out.lt); replace S := Lib.hid (S.out.over hb)
  clear hb
  go_wp2_with fail
  refine (Number_st S.out (by omega) _).mono ?_
  rintro e w3 ⟨rfl, k1, k2⟩
  replace S := Lib.hid k1; replace K := Lib.hid (K.out.trans k2.1); replace B := Lib.hid (B.out.kept k2.2 (by decide) (by omega)); clear k1 k2
  have c0 := B.out.row 0 _ H0.out; rw [Nat.zero_add] at c0
  go_wp2_with fail
  refine (Number_st S.out (by omega) _).mono ?_
  rintro e w4 ⟨rfl, k1, k2⟩
  replace S := Lib.hid k1; replace K := Lib.hid (K.out.trans k2.1); replace B := Lib.hid (B.out.kept k2.2 (by decide) (by omega)); clear k1 k2 c0
  have c0 := B.out.row 1 _ H1.out; rw [Nat.zero_add] at c0
  go_wp2_with fail
  refine (Number_st S.out (by omega) _).mono ?_
  rintro e w5 ⟨rfl, k1, k2⟩
  replace S := Lib.hid k1; replace K := Lib.hid (K.out.trans k2.1); replace B := Lib.hid (B.out.kept k2.2 (by decide) (by omega)); clear k1 k2 c0
  have HR := Lib.hid (show RowAt w5 w.heap.size 2 (Lib.byteCells c.block) by have := B.out.row.part 2 32; rwa [Hblock.out, Nat.zero_add] at this)
  go_wp2_with (refine wpList_load_part rfl 24 _ rfl w.heap.size 2 rfl (Lib.byteCells c.block) _ HR.out Tryd.underlying24 rfl (hash_size _ Hc.out.block) ?_)
  refine (Hash_st S.out (by omega) _ Hc.out.block).mono ?_
  rintro e w6 ⟨rfl, k1, k2⟩
  replace K := Lib.hid (K.out.trans k2.1); replace B := Lib.hid (B.out.kept k2.2 (by decide) (by omega)); clear k1 k2 HR
  have c0 := B.out.row 34 _ H34.out; rw [Nat.zero_add] at c0
  go_wp2_with (go_at_call 56; refine (many_no _ _ _ (by omega)).mono ?_; rintro e w' ⟨rfl, rfl⟩)
  exact ⟨rfl, rfl, K.out⟩

end Go.Proofs.YtaffpgafbjhahaaDoor
