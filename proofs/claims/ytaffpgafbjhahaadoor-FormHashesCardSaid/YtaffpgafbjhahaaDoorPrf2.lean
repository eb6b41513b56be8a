/- Walks: forms.checkProof, EncodeProof. -/
import Derived.Test.YtaffpgafbjhahaaDoorPrf
namespace Go.Proofs.YtaffpgafbjhahaaDoor
open Go.RowKit
set_option maxRecDepth 100000

def ZPart : List Value := [.int .i64 0, .string ⟨#[]⟩, .string ⟨#[]⟩, .slice none 0 0]
theorem ZPart_info : (Tryd.prog.info? 46).map (fun i => i.zero.map (fun v => v.cells)) = some (some ZPart.toArray) := by kernel_rfl
theorem sizePart : (Tryd.prog.info? 46).map (·.size) = some 4 := by kernel_rfl
theorem sizeProof : (Tryd.prog.info? 41).map (·.size) = some 2 := by kernel_rfl
theorem PartD_one (p : PartD) (a : Option Addr) (n k : Nat) : ∀ x ∈ p.cells (.slice a n k), x.oneCell' = true := by simp [PartD.cells, Value.oneCell']

set_option maxHeartbeats 400000 in
theorem checkProof_any {B : Nat} (p : ProofD) (cs : List Value) (w : World) (hr : p.rep B w cs) (hB : B ≤ w.heap.size) :
    Calls Tryd.prog 57 #[.agg cs.toArray] w (RetB (chkProof p) w) := by
  obtain ⟨sl, pcs, hsl, hps, rfl⟩ := hr
  obtain ⟨ao, c, rfl, hle, hcm, _, hrow⟩ := hsl
  unfold maxLen at hcm
  obtain ⟨W, hW, hblk, hrw, hf, hb, hsz⟩ := box_as w [.int .i64 p.size, .slice ao p.parts.length c] 41
  have c0 := hrw 0 _ rfl; rw [Nat.zero_add] at c0
  have c1 := hrw 1 _ rfl; rw [Nat.zero_add] at c1
  have HW := Lib.hid hW; have HB := Lib.hid hb; have HPS := Lib.hid hps
  have Hrow : Hid ((ao = none ∧ p.parts.length = 0 ∧ c = 0) ∨ ∃ g o, ao = some ⟨g, o, none⟩ ∧ g < w.heap.size ∧ RowAt W g o pcs) := by
    rcases hrow with h | ⟨g, o, e, hg, hr⟩
    · exact Lib.hid (Or.inl h)
    · exact Lib.hid (Or.inr ⟨g, o, e, by omega, hr.below hb (by omega)⟩)
  clear hW hblk hrw hf hb hsz hrow hps hB
  go_enter Tryd.func57, Tryd.ntmps57
  go_upto_region 1 with (fail)
  rw [HW.out]
  clear HW
  go_wp2_with fail
  cases h1 : inR p.size 0 4096
  · refine (within_f _ _ _ _ h1).mono ?_
    rintro e w' ⟨rfl, rfl⟩
    exact ⟨rfl, RetB.no (by simp only [chkProof, h1, Bool.false_and]) HB.out⟩
  refine (within_t _ _ _ _ h1).mono ?_
  rintro e w' ⟨rfl, rfl⟩
  have H1 := Lib.hid h1; clear h1
  go_wp2_with fail
  clear c0 c1
  go_loopw [10] (fun i wr => ∃ k : Nat, k ≤ p.parts.length ∧ i = .int .i64 k ∧ ((p.parts.take k).all fun x => inR x.index 0 4096) = true ∧ Below w.heap.size W wr) (fun i _ => p.parts.length - (intOf i).toNat)
  case atStart => exact ⟨0, Nat.zero_le _, rfl, rfl, Below.refl _ _⟩
  case round =>
    obtain ⟨k, hk, rfl, ha, hb⟩ := hrel
    have Ha := Lib.hid ha; have Hb := Lib.hid hb; clear ha hb
    by_cases hlt : k < p.parts.length
    · rcases Hrow.out with ⟨_, h0, _⟩ | ⟨g, o, rfl, hg, hrow⟩
      · omega
      obtain ⟨pv, hpv, hcs⟩ := HPS.out.get k hlt
      obtain ⟨pa, pk, rfl⟩ := RdE.shape hpv
      have R := Lib.hid (show RowAt wr g (o + k * 4) (p.parts[k].cells (.slice pa p.parts[k].path.length pk)) by have := (hrow.below Hb.out hg).part (k * 4) 4; rwa [hcs] at this)
      have Ht := Lib.hid (all_take (fun x : PartD => inR x.index 0 4096) p.parts k hlt)
      have Hn := Lib.hid (all_no (fun x : PartD => inR x.index 0 4096) p.parts k hlt)
      obtain ⟨d, hd⟩ : ∃ d, d = p.parts[k] := ⟨_, rfl⟩
      rw [← hd] at R Ht Hn
      clear hd hrow hg hpv hcs
      go_wp2_with (first | (refine wpList_load_part rfl 46 _ rfl g (o + k * 4) rfl (d.cells (.slice pa d.path.length pk)) _ R.out Tryd.underlying46 rfl sizePart ?_) | (refine wpList_alloc_as rfl 46 rfl ZPart ZPart_info ?_))
      intro w4 b4 g4 s4
      have B4 := Lib.hid b4; have G4 := Lib.hid g4; clear b4 g4 s4
      go_wp2_with (refine wpList_store_whole rfl 46 _ _ rfl wr.heap.size rfl (d.cells (.slice pa d.path.length pk)) ZPart 46 rfl B4.out rfl (PartD_one d _ _ _) sizePart ?_)
      intro w5 g5 s5 b5
      have Gn := Lib.hid (Hb.out.trans (WK.over (b := w.heap.size) (WK.refl _ _ wr) (grown_new G4.out g5 (Nat.le_refl _)) (Nat.le_trans HB.out.size Hb.out.size)))
      have c := b5.row 0 _ rfl; rw [Nat.zero_add] at c
      clear b5 g5 s5
      go_wp2_with fail
      cases h2 : inR d.index 0 4096
      · refine (within_f _ _ _ _ h2).mono ?_
        rintro e w' ⟨rfl, rfl⟩
        exact ⟨rfl, RetB.no (by simp only [chkProof, Hn.out h2, Bool.and_false]) (HB.out.trans Gn.out)⟩
      refine (within_t _ _ _ _ h2).mono ?_
      rintro e w' ⟨rfl, rfl⟩
      have H2 := Lib.hid h2; clear h2
      go_wp2_with fail
      exact ⟨⟨k + 1, by omega, by go_num, by rw [Ht.out, Ha.out, H2.out]; rfl, Gn.out⟩, by simp [intOf]; omega⟩
    · obtain rfl : k = p.parts.length := by omega
      have Hy := Lib.hid (show chkProof p = true by have := Ha.out; rw [List.take_of_length_le (Nat.le_refl _)] at this; unfold chkProof; rw [H1.out, this]; rfl)
      go_wp2_with fail
      go_end0
      exact RetB.yes Hy.out (HB.out.trans Hb.out)

/-- what the writing of a proof does -/
def EncPost (p : ProofD) (b : Nat) (w1 : World) (e : Ending) (w2 : World) : Prop :=
  (rightP p = true ∧ e = .returned (.tuple #[]) ∧ IsW b b (encProof p) (p.parts.any pBad) w2 ∧ Below b w1 w2) ∨ (rightP p = false ∧ e = .panicked wrongP ∧ Below b w1 w2)

set_option maxHeartbeats 2000000 in
theorem EncodeProofBody_any (p : ProofD) (hp : p.wf) (cs : List Value) (m B0 : Nat) (w : World) (hm : m < B0) (hA : RowAt w m 0 cs) (hr : p.rep B0 w cs)
    (w1 : World) (b : Nat) (hW : IsW b b [] false w1) (hbel : Below B0 w w1) (hB0 : B0 ≤ b) :
    Calls Tryd.prog 55 #[.pointer (some ⟨b, 0, none⟩), .pointer (some ⟨m, 0, none⟩)] w1 (EncPost p b w1) := by
  have HA := Lib.hid (hA.below hbel hm)
  have hr2 := (hr.below hbel (Nat.le_refl _)).mono hB0
  have HR := Lib.hid hr2
  obtain ⟨sl, pcs, hsl, hps, rfl⟩ := hr2
  obtain ⟨ao, c, rfl, hle, hcm, _, hrow⟩ := hsl
  unfold maxLen at hcm
  have S := Lib.hid (show Sw b w1 [] false 0 w1 from ⟨hW, Below.refl _ _, Nat.le_refl _⟩)
  have Hp := Lib.hid hp; have HPS := Lib.hid hps; have Hrow := Lib.hid hrow; have Hlb := Lib.hid hW.lt
  have hmb : m < b := by omega
  clear hA hW hbel hB0 hr hp hps hrow hm
  go_enter Tryd.func55, Tryd.ntmps55
  go_wp2_with fail
  refine (Number_w S.out (by omega) _).mono ?_
  rintro e w2 ⟨rfl, k1, k2⟩
  replace S := Lib.hid k1; replace HA := Lib.hid (HA.out.below k2.1 hmb); have K := Lib.hid k2.1; clear k1 k2
  have c0 := HA.out 0 _ rfl; rw [Nat.zero_add] at c0
  go_wp2_with fail
  refine (Number_w S.out (by omega) _).mono ?_
  rintro e w3 ⟨rfl, k1, k2⟩
  replace S := Lib.hid k1; replace HA := Lib.hid (HA.out.below k2.1 hmb); replace K := Lib.hid (K.out.trans k2.1); clear k1 k2 c0
  have c0 := HA.out 1 _ rfl; rw [Nat.zero_add] at c0
  by_cases h2 : p.parts.length ≤ 2
  case neg =>
    go_wp2_with (go_at_call 56; refine (many_no _ _ _ (by omega)).mono ?_; rintro e w' ⟨rfl, rfl⟩)
    exact ⟨rfl, Or.inr ⟨by simp [rightP, h2], rfl, K.out⟩⟩
  go_wp2_with (go_at_call 56; refine (many_yes _ _ _ (by omega)).mono ?_; rintro e w' ⟨rfl, rfl⟩)
  refine (Number_w S.out (by omega) _).mono ?_
  rintro e w4 ⟨rfl, k1, k2⟩
  replace S := Lib.hid k1; replace HA := Lib.hid (HA.out.below k2.1 hmb); replace K := Lib.hid (K.out.trans k2.1); clear k1 k2 c0
  replace HR := Lib.hid (HR.out.below K.out (Nat.le_refl _))
  go_wp2_with (refine wpList_load_part rfl 41 _ rfl m 0 rfl [.int .i64 p.size, .slice ao p.parts.length c] _ HA.out Tryd.underlying41 rfl sizeProof ?_)
  refine (checkProof_any p _ _ HR.out S.out.lt).mono ?_
  intro e w5 hck
  cases hc : chkProof p
  · rw [hc] at hck
    obtain ⟨rfl, hb⟩ := hck
    exact ⟨rfl, Or.inr ⟨by simp [rightP, hc], rfl, K.out.trans (hb.mono S.out.lt)⟩⟩
  rw [hc] at hck
  obtain ⟨rfl, hb⟩ := hck
  have Hc := Lib.hid hc
  have hb5 := hb.mono S.out.lt
  replace HA := Lib.hid (HA.out.below hb5 hmb); replace S := Lib.hid (S.out.over hb); replace K := Lib.hid (K.out.trans hb5)
  clear hb hc hb5
  have c0 := HA.out 1 _ rfl; rw [Nat.zero_add] at c0
  go_wp2_with fail
  clear c0
  go_loopw [24] (fun i wr => ∃ k : Nat, k ≤ p.parts.length ∧ i = .int .i64 k ∧ ((p.parts.take k).all fun x => decide (x.path.length ≤ 16)) = true ∧ Sw b w1 (be64 7 ++ be64 p.size ++ be64 p.parts.length ++ encParts (p.parts.take k)) ((p.parts.take k).any pBad) (24 + 9000 * k) wr ∧ Below b w5 wr) (fun i _ => p.parts.length - (intOf i).toNat)
  case atStart => exact ⟨0, Nat.zero_le _, rfl, rfl, by simpa [encParts] using S.out, Below.refl _ _⟩
  case round =>
    obtain ⟨k, hk, rfl, ha, hs, hb⟩ := hrel
    have Ha := Lib.hid ha; have Hs := Lib.hid hs; have Hb := Lib.hid hb; clear ha hs hb
    by_cases hlt : k < p.parts.length
    · rcases Hrow.out with ⟨_, h0, _⟩ | ⟨g, o, rfl, hg, hrow⟩
      · omega
      obtain ⟨pv, hpv, hcs⟩ := HPS.out.get k hlt
      have hbk := K.out.trans Hb.out
      have hpv' := RdE.below hpv hbk (Nat.le_refl _)
      obtain ⟨pa, pk, rfl, hple, hpm, _, hprow⟩ := hpv'
      unfold maxLen at hpm
      have R := Lib.hid (show RowAt wr g (o + k * 4) (p.parts[k].cells (.slice pa p.parts[k].path.length pk)) by have := (hrow.below hbk hg).part (k * 4) 4; rwa [hcs] at this)
      have Ht := Lib.hid (all_take (fun x : PartD => decide (x.path.length ≤ 16)) p.parts k hlt)
      have Hn := Lib.hid (all_no (fun x : PartD => decide (x.path.length ≤ 16)) p.parts k hlt)
      have He := Lib.hid (encParts_take p.parts k hlt)
      have Hy := Lib.hid (any_take pBad p.parts k hlt)
      have Hwd := Lib.hid (Hp.out.parts p.parts[k] (List.getElem_mem _))
      have Hpr := Lib.hid hprow
      obtain ⟨d, hd⟩ : ∃ d, d = p.parts[k] := ⟨_, rfl⟩
      rw [← hd] at R Ht Hn He Hy Hwd Hpr hple

      clear hd hrow hg hpv hcs hprow hbk
      go_wp2_with (first | (refine wpList_load_part rfl 46 _ rfl g (o + k * 4) rfl (d.cells (.slice pa d.path.length pk)) _ R.out Tryd.underlying46 rfl sizePart ?_) | (refine wpList_alloc_as rfl 46 rfl ZPart ZPart_info ?_))
      intro w6 b6 g6 s6
      have B6 := Lib.hid b6; have G6 := Lib.hid g6; clear b6 g6 s6
      go_wp2_with (refine wpList_store_whole rfl 46 _ _ rfl wr.heap.size rfl (d.cells (.slice pa d.path.length pk)) ZPart 46 rfl B6.out rfl (PartD_one d _ _ _) sizePart ?_)
      intro w7 g7 s7 b7
      have hm2 : b < wr.heap.size := Hs.out.isW.lt
      have Gn := Lib.hid (grown_new G6.out g7 (Nat.le_refl _))
      have S7 := Lib.hid (Hs.out.grown Gn.out)
      have K7 := Lib.hid ((WK.refl b b wr).over Gn.out (Nat.le_of_lt hm2))
      have c := b7.row 0 _ rfl; rw [Nat.zero_add] at c
      have B7 := Lib.hid b7; clear b7 g7 s7
      go_wp2_with fail
      refine (Number_w S7.out (by omega) _).mono ?_
      rintro e w8 ⟨rfl, k1, k2⟩
      replace S7 := Lib.hid k1; replace B7 := Lib.hid (B7.out.kept k2.2 (by decide) (by omega)); replace K7 := Lib.hid (K7.out.trans k2.1); clear k1 k2 c
      have c := B7.out.row 1 _ rfl; rw [Nat.zero_add] at c
      go_wp2_with fail
      refine (Text_w S7.out (by omega) _ Hwd.out.key).mono ?_
      rintro e w9 ⟨rfl, k1, k2⟩
      replace S7 := Lib.hid k1; replace B7 := Lib.hid (B7.out.kept k2.2 (by decide) (by omega)); replace K7 := Lib.hid (K7.out.trans k2.1); clear k1 k2 c
      have c := B7.out.row 2 _ rfl; rw [Nat.zero_add] at c
      go_wp2_with fail
      refine (Text_w S7.out (by omega) _ Hwd.out.value).mono ?_
      rintro e w10 ⟨rfl, k1, k2⟩
      replace S7 := Lib.hid k1; replace B7 := Lib.hid (B7.out.kept k2.2 (by decide) (by omega)); replace K7 := Lib.hid (K7.out.trans k2.1); clear k1 k2 c
      have c := B7.out.row 3 _ rfl; rw [Nat.zero_add] at c
      by_cases h16 : d.path.length ≤ 16
      case neg =>
        go_wp2_with (go_at_call 56; refine (many_no _ _ _ (by omega)).mono ?_; rintro e w' ⟨rfl, rfl⟩)
        exact ⟨rfl, Or.inr ⟨by unfold rightP; rw [Hn.out (by simpa using h16)]; simp, rfl, (K.out.trans Hb.out).trans K7.out⟩⟩
      go_wp2_with (go_at_call 56; refine (many_yes _ _ _ (by omega)).mono ?_; rintro e w' ⟨rfl, rfl⟩)
      refine (Number_w S7.out (by omega) _).mono ?_
      rintro e w11 ⟨rfl, k1, k2⟩
      replace S7 := Lib.hid k1; replace B7 := Lib.hid (B7.out.kept k2.2 (by decide) (by omega)); replace K7 := Lib.hid (K7.out.trans k2.1); clear k1 k2 c
      have c := B7.out.row 3 _ rfl; rw [Nat.zero_add] at c
      go_wp2_with fail
      clear c
      obtain ⟨bs7, hbs⟩ : ∃ x, be64 7 ++ be64 p.size ++ be64 p.parts.length ++ encParts (p.parts.take k) ++ be64 d.index ++ textW d.key ++ textW d.value ++ be64 d.path.length = x := ⟨_, rfl⟩
      rw [hbs] at S7
      have Hbs := Lib.hid hbs; clear hbs
      obtain ⟨bd, hbd⟩ : ∃ x, (((p.parts.take k).any pBad || decide (4096 < d.key.size)) || decide (4096 < d.value.size)) = x := ⟨_, rfl⟩
      rw [hbd] at S7
      have Hbd := Lib.hid hbd; clear hbd
      go_loopw [51] (fun i wr => ∃ j : Nat, j ≤ d.path.length ∧ i = .int .i64 j ∧ Sw b w1 (bs7 ++ (d.path.take j).flatten) bd (24 + 9000 * k + 8 + 4098 + 4098 + 8 + 32 * j) wr ∧ Below b w11 wr) (fun i _ => d.path.length - (intOf i).toNat)
      case atStart => exact ⟨0, Nat.zero_le _, rfl, by simpa using S7.out, Below.refl _ _⟩
      case round =>
        obtain ⟨j, hj, rfl, hs2, hb2⟩ := hrel
        have Hs2 := Lib.hid hs2; have Hb2 := Lib.hid hb2; clear hs2 hb2
        by_cases hlt2 : j < d.path.length
        · rcases Hpr.out with ⟨_, h0, _⟩ | ⟨g2, o2, rfl, hg2, hrow2⟩
          · omega
          have R2 := Lib.hid (RowAt.elem (f := Lib.byteCells) (k := 32) (hrow2.below (K7.out.trans Hb2.out) hg2) (fun x hx => by rw [Lib.byteCells_length]; exact Hwd.out.path x hx) j hlt2)
          have Ht2 := Lib.hid (take_hash d.path j hlt2)
          obtain ⟨x, hx⟩ : ∃ x, x = d.path[j] := ⟨_, rfl⟩
          have Hx := Lib.hid (Hwd.out.path x (by rw [hx]; exact List.getElem_mem _))
          rw [← hx] at R2 Ht2
          clear hx hrow2 hg2
          go_wp2_with (first | (refine wpList_load_part rfl 24 _ rfl g2 (o2 + j * 32) rfl (Lib.byteCells x) _ R2.out Tryd.underlying24 rfl (hash_size _ Hx.out) ?_) | (refine wpList_alloc_as rfl 24 rfl ZH ZH_info ?_))
          intro w12 b4 g4 s4
          have B4 := Lib.hid b4; have G4 := Lib.hid g4; clear b4 g4 s4
          go_wp2_with (refine wpList_store_whole rfl 24 _ _ rfl wr.heap.size rfl (Lib.byteCells x) ZH 24 rfl B4.out (by rw [Lib.byteCells_length, Hx.out]; rfl) (oneCell_bytes x) (hash_size _ Hx.out) ?_)
          intro w13 g5 s5 b5
          have Gn2 := Lib.hid (grown_new G4.out g5 (Nat.le_refl _))
          have S5 := Lib.hid (Hs2.out.grown Gn2.out)
          have B5 := Lib.hid b5; clear b5 g5 s5
          go_wp2_with (refine wpList_load_part rfl 24 _ rfl wr.heap.size 0 rfl (Lib.byteCells x) _ B5.out.row Tryd.underlying24 rfl (hash_size _ Hx.out) ?_)
          refine (Hash_w S5.out (by omega) _ Hx.out).mono ?_
          rintro e w14 ⟨rfl, k1, k2⟩
          have S6 := Lib.hid k1
          have K6 := Lib.hid ((WK.over (WK.refl b b wr) Gn2.out Hs2.out.lt).trans k2.1)
          clear k1 k2
          go_wp2_with fail
          refine ⟨⟨j + 1, by omega, by go_num, S6.out.put ?_ rfl (by omega), Hb2.out.trans K6.out⟩, by simp [intOf]; omega⟩
          rw [Ht2.out]; simp only [List.append_assoc]
        · obtain rfl : j = d.path.length := by omega
          go_wp2_with fail
          refine ⟨⟨k + 1, by omega, by go_num, ?_, Hs2.out.put ?_ ?_ (by omega), Hb.out.trans (K7.out.trans Hb2.out)⟩, by simp [intOf]; omega⟩
          · rw [Ht.out, Ha.out, decide_eq_true h16]; rfl
          · rw [He.out, ← Hbs.out, List.take_of_length_le (Nat.le_refl _)]; simp only [encPart, List.append_assoc]
          · rw [Hy.out, ← Hbd.out, pBad, Bool.or_assoc]
    · obtain rfl : k = p.parts.length := by omega
      go_wp2_with fail
      go_end0
      refine Or.inl ⟨?_, rfl, ?_, K.out.trans Hb.out⟩
      · have := Ha.out; rw [List.take_of_length_le (Nat.le_refl _)] at this
        unfold rightP; rw [Hc.out, this, decide_eq_true h2]; rfl
      · have := Hs.out.isW; rw [List.take_of_length_le (Nat.le_refl _)] at this
        exact this

theorem flat32_len : ∀ (q : List (List UInt8)), (∀ y ∈ q, y.length = 32) → q.flatten.length = 32 * q.length
  | [], _ => rfl
  | y :: q, h => by
    have := flat32_len q (fun z hz => h z (by simp [hz]))
    rw [List.flatten_cons, List.length_append, this, h y (by simp), List.length_cons]; omega
theorem encPart_len (x : PartD) (h1 : x.path.length ≤ 16) (h2 : x.wf) : (encPart x).length ≤ 9000 := by
  have k1 := textW_len x.key; have k2 := textW_len x.value
  unfold encPart
  rw [List.length_append, List.length_append, List.length_append, List.length_append, be64_length, be64_length, flat32_len _ h2.path]
  omega
theorem encParts_len : ∀ (l : List PartD), (∀ x ∈ l, x.path.length ≤ 16 ∧ x.wf) → (encParts l).length ≤ 9000 * l.length
  | [], _ => by simp [encParts]
  | x :: l, h => by
    have ih := encParts_len l (fun y hy => h y (by simp [hy]))
    obtain ⟨h1, h2⟩ := h x (by simp)
    have hx := encPart_len x h1 h2
    unfold encParts at ih ⊢
    rw [List.flatMap_cons, List.length_append, List.length_cons]; omega

set_option maxHeartbeats 400000 in
theorem EncodeProof_any (p : ProofD) (cs : List Value) (w : World) (hp : p.wf) (hr : p.rep w.heap.size w cs) : Calls Tryd.prog 16 #[.agg cs.toArray] w (Enc (okProof p) (encProof p) w) := by
  have hmf : ∀ (fn : Fn) (first cap : Array Value) (w : World), (Instr.makeFunc fn first cap).run Tryd.prog w = .ok (.func fn first cap) w := fun _ _ _ _ => rfl
  have hr2 := ((hr.below (below_box w (.cells cs.toArray 41)) (Nat.le_refl _)).mono (B' := (w.alloc (.cells cs.toArray 41)).heap.size) (by simp))
  have body := fun w1 b => EncodeProofBody_any p hp cs w.heap.size (w.alloc (.cells cs.toArray 41)).heap.size (w.alloc (.cells cs.toArray 41)) (by simp) (RowAt_box w cs _) hr2 w1 b
  have henter := enters Tryd.func55 (by kernel_rfl) rfl
  cases h : rightP p with
  | false =>
    have e : okProof p = false := by unfold okProof; rw [h]; rfl
    rw [e]
    have C := Lib.hid (encode_no 55 #[.pointer (some ⟨w.heap.size, 0, none⟩)] (w.alloc (.cells cs.toArray 41)) henter
      (fun w1 b h1 h2 h3 => (body w1 b h1 h2 h3).mono fun e w2 hh => by
        rcases hh with ⟨q, _⟩ | ⟨_, q1, q2⟩
        · rw [h] at q; cases q
        · exact ⟨q1, q2⟩))
    clear hp h hr hr2 body e henter
    go_enter Tryd.func16, Tryd.ntmps16
    go_wp2_with (go_at_call 46; refine C.out.mono ?_; rintro e w1 ⟨rfl, k2⟩)
    go_ret2
    exact Enc.n rfl ⟨rfl, (below_box w _).trans (k2.mono (by simp))⟩
  | true =>
    cases hbd : p.parts.any pBad with
    | true =>
      have e : okProof p = false := by unfold okProof; rw [hbd]; simp
      rw [e]
      have C := Lib.hid (encode_bad 55 #[.pointer (some ⟨w.heap.size, 0, none⟩)] (encProof p) (w.alloc (.cells cs.toArray 41)) henter
        (fun w1 b h1 h2 h3 => (body w1 b h1 h2 h3).mono fun e w2 hh => by
          rcases hh with ⟨_, q1, q2, q3⟩ | ⟨q, _⟩
          · rw [hbd] at q2; exact ⟨q1, q2, q3⟩
          · rw [h] at q; cases q))
      clear hp h hr hr2 body e henter hbd
      go_enter Tryd.func16, Tryd.ntmps16
      go_wp2_with (go_at_call 46; refine C.out.mono ?_; rintro e w1 ⟨rfl, k2⟩)
      go_ret2
      exact Enc.n rfl ⟨rfl, (below_box w _).trans (k2.mono (by simp))⟩
    | false =>
      have e : okProof p = true := by unfold okProof; rw [hbd, h]; rfl
      rw [e]
      have hlen : (encProof p).length ≤ 100000000 := by
        have h' := h
        simp only [rightP, Bool.and_eq_true, decide_eq_true_eq, List.all_eq_true] at h'
        have := encParts_len p.parts (fun x hx => ⟨h'.2.2 x hx, hp.parts x hx⟩)
        simp [encProof, be64_length]; omega
      have C := Lib.hid (encode_yes 55 #[.pointer (some ⟨w.heap.size, 0, none⟩)] (encProof p) (w.alloc (.cells cs.toArray 41)) henter
        (fun w1 b h1 h2 h3 => (body w1 b h1 h2 h3).mono fun e w2 hh => by
          rcases hh with ⟨_, q1, q2, q3⟩ | ⟨q, _⟩
          · rw [hbd] at q2; exact ⟨q1, q2, q3⟩
          · rw [h] at q; cases q) (by simp [encProof, be64_length]; omega) (by omega))
      clear hp h hr hr2 body e henter hbd hlen
      go_enter Tryd.func16, Tryd.ntmps16
      go_wp2_with (go_at_call 46; refine C.out.mono ?_; rintro e w1 ⟨sl, rfl, k1, k2⟩)
      go_ret2
      obtain ⟨a, n, c, rfl⟩ := k1.shape
      exact Enc.y rfl ⟨a, n, c, rfl, k1.mono (by simp), (below_box w _).trans (k2.mono (by simp))⟩

end Go.Proofs.YtaffpgafbjhahaaDoor
