/- Walk: nunciolaw20.ChannelSends. -/
import Derived.Test.YtlahdaanfhedoaaDoorCh13
namespace Go.Proofs.YtlahdaanfhedoaaDoor
open Go.RowKit Go.Maps
set_option maxRecDepth 100000

/-- an act of a script -/
structure Act20 where
  kind : Int
  a : Int
  i : Int
  j : Int
  data : ByteArray
  tm : Int
  ans : ByteArray
  own : Bool
  size : Int
  sl : Value
  bent : Int
def Act20.cells (x : Act20) : List Value := [.int .i64 x.kind, .int .i64 x.a, .int .i64 x.i, .int .i64 x.j, .string x.data, .int .i64 x.tm, .string x.ans, .bool x.own, .int .i64 x.size, x.sl, .int .i64 x.bent]
structure Act20.wf (x : Act20) : Prop where
  data : x.data.size ≤ maxLen
  tm : i64R x.tm
def acts20Cells (l : List Act20) : List Value := l.flatMap Act20.cells
theorem acts20_at {B : Nat} {w : World} {v : Value} {s : List Act20} (h : RdS B w v s.length 11 (acts20Cells s)) (k : Nat) (hk : k < s.length) : ∃ g o c, v = .slice (some ⟨g, o, none⟩) s.length c ∧ g < B ∧ RowAt w g (o + k * 11) s[k].cells := by
  obtain ⟨ao, c, rfl, _, _, hlen, h0 | ⟨g, o, rfl, hg, hr⟩⟩ := h
  · omega
  · exact ⟨g, o, c, rfl, hg, RowAt.elem hr (fun d _ => rfl) k hk⟩
/-- the keys of commits -/
def keysC (m : Nat) : List ByteArray := (List.range m).map fun i => keyS kCommit (i + 1)
theorem keys_all : (keysC 61).Nodup := by decide +kernel
theorem keys_nodup {m : Nat} (h : m ≤ 61) : (keysC m).Nodup := by
  have e : keysC m = (keysC 61).take m := by
    unfold keysC
    rw [← List.map_take, List.take_range, Nat.min_eq_left h]
  rw [e]
  exact keys_all.sublist (List.take_sublist _ _)
theorem keysC_succ (m : Nat) : keysC (m + 1) = keysC m ++ [keyS kCommit (m + 1)] := by unfold keysC; rw [List.range_succ, List.map_append]; rfl
theorem keyS_head (s : ByteArray) (n : Nat) : (keyS s n).data.toList = s.data.toList ++ (slashS.data.toList ++ (digS n).data.toList) := by
  unfold keyS
  rw [ByteArray.data_append, ByteArray.data_append]
  simp
theorem rc_ne (i j : Nat) : keyS kReceipt i ≠ keyS kCommit j := fun h => by
  have e : (keyS kReceipt i).data.toList = (keyS kCommit j).data.toList := by rw [h]
  rw [keyS_head, keyS_head] at e
  have e2 := congrArg List.head? e
  simp [kReceipt, kCommit] at e2
theorem key_size (s : ByteArray) (h : s.size ≤ 1000) (n : Nat) : (keyS s n).size ≤ maxLen := by unfold keyS; have := dig_size n; rw [ByteArray.size_append, ByteArray.size_append]; show s.size + 1 + (digS n).size ≤ 9223372036854775807; omega
theorem ents_facts {m : Nat} (hm : m ≤ 61) {es : List EntD} (h : es.map (·.key) = (keysC m).reverse) : (es.map (·.key)).Nodup ∧ (∀ e ∈ es, e.key.size ≤ maxLen) ∧ (∀ i, has (entsD es) (keyL (keyS kReceipt i)) = false) ∧ es.length = m := by
  have hmem : ∀ e ∈ es, ∃ j, e.key = keyS kCommit j := fun e he => by
    have h1 : e.key ∈ es.map (·.key) := List.mem_map.2 ⟨e, he, rfl⟩
    rw [h, List.mem_reverse] at h1
    obtain ⟨j, _, hj⟩ := List.mem_map.1 h1
    exact ⟨j + 1, hj.symm⟩
  refine ⟨by rw [h]; exact ((List.reverse_perm _).nodup_iff).2 (keys_nodup hm), fun e he => ?_, fun i => ?_, ?_⟩
  · obtain ⟨j, hj⟩ := hmem e he
    rw [hj]; exact key_size _ (by decide) _
  · cases hh : has (entsD es) (keyL (keyS kReceipt i)) with
    | false => rfl
    | true =>
      obtain ⟨e, he, hq⟩ := entsD_has es _ hh
      obtain ⟨j, hj⟩ := hmem e he
      exact absurd ((keyL_inj hq).trans hj) (rc_ne i j)
  · have := congrArg List.length h
    simpa [keysC] using this
theorem pk_wf20 {m : Nat} (hm : m ≤ 61) {d : ByteArray} (hd : d.size ≤ maxLen) {t : Int} (ht : i64R t) : (⟨((m + 1 : Nat) : Int), aS, d, t⟩ : PacketD).wf := ⟨by show (-9223372036854775808 : Int) ≤ ((m + 1 : Nat) : Int) ∧ ((m + 1 : Nat) : Int) < 9223372036854775808; omega, by show (1 : Nat) ≤ 2 ^ 63 - 1; decide, hd, ht⟩
theorem OwF.widen {F : Nat → Prop} {w0 w w2 : World} {L : List (Nat × List Value × TypeId)} (O : OwF (fun _ => False) w0 w L) (t : Tch F w w2) (hF : ∀ b, F b → b < w0.heap.size) : OwF F w0 w2 L :=
  ⟨(O.tch.mono (fun _ h _ => h.elim)).trans t (fun _ hb _ => hb), fun e he => t.blk (O.blk e he) (fun hf => by have := hF _ hf; have := (O.ok e he).resolve_right id; omega), fun e he => .inl ((O.ok e he).resolve_right id), O.nodup⟩
theorem ents_new {m : Nat} {es : List EntD} (h : es.map (·.key) = (keysC m).reverse) (s : ByteArray) : ((⟨keyS kCommit (m + 1), s⟩ :: es : List EntD).map (·.key)) = (keysC (m + 1)).reverse := by rw [List.map_cons, h, keysC_succ, List.reverse_append]; rfl
theorem a_one : (aS.toList == [97]) = true := by decide +kernel
theorem ChRep.tch {F : Nat → Prop} {w w' : World} {p bm : Nat} {own other : ByteArray} {next : Int} {n : Nat} {D : DataW Value} (h : ChRep w p bm own other next n D) (t : Tch F w w') (hp : ¬ F p) (hb : ¬ F bm) : ChRep w' p bm own other next n D := ⟨t.blk h.blk hp, ownsMap_tchC h.map t hb, h.ne⟩
def SendsR (w0 : World) (p bm : Nat) (M : Nat) (n i : Value) (wr : World) : Prop := ∃ (k m : Nat) (es : List EntD), k ≤ M ∧ k ≤ 60 ∧ m ≤ k ∧ i = .int .i64 (k : Int) ∧ n = .int .i64 (m : Int) ∧ w0.grownBy wr none ∧ ChRep wr p bm aS bS ((m + 1 : Nat) : Int) m (entsD es) ∧ es.map (·.key) = (keysC m).reverse
set_option maxHeartbeats 16000000 in
theorem ChannelSends_any (sv : Value) (s : List Act20) (w0 : World) (hs : RdS w0.heap.size w0 sv s.length 11 (acts20Cells s)) (hsw : ∀ a ∈ s, a.wf) (hR : RowAt w0 0 0 (wCells rootsL)) :
    Calls Tryd.prog 4 #[sv] w0 fun e w' => e = .returned (.bool true) ∧ w0.grownBy w' none := by
  have CA := Lib.hid (fun w (g : w0.grownBy w none) => alive20_ok w (hR.grown g (by simp)))
  have HR := Lib.hid hR
  have CN := Lib.hid (chNew_ok aS bS (by unfold maxLen aS; decide) (by unfold maxLen bS; decide) w0)
  have HRL := Lib.hid (World.block_lt_of_cell? w0 ⟨0, 0 + 0, none⟩ (hR 0 _ rfl))
  have HSA := Lib.hid (fun k hk => acts20_at hs k hk)
  have HSW := Lib.hid hsw
  obtain ⟨bo, dp, rfl, hle2, hcm2, _, _⟩ := hs
  unfold maxLen at hcm2
  obtain ⟨M, hM⟩ : ∃ n, s.length = n := ⟨_, rfl⟩
  rw [hM] at hle2
  rw [hM]
  have HM := Lib.hid hM
  clear hsw hR hM
  go_enter Tryd.func4, Tryd.ntmps4
  go_wp2_with fail
  refine CN.out.mono ?_
  rintro e w ⟨g1, h⟩
  rcases h with ⟨h0, _⟩ | ⟨_, p, bm, rfl, H, hp, hbm⟩
  · rw [new_ab] at h0; cases h0
  have HG := Lib.hid g1; have HP := Lib.hid (show p ≠ 0 from fun e => by have := HRL.out; omega)
  have HPB := Lib.hid (show w0.heap.size ≤ p ∧ w0.heap.size ≤ bm from ⟨hp, hbm⟩)
  have HH := Lib.hid H
  clear H hp hbm g1 CN
  go_wp2_with fail
  refine (CA.out _ HG.out).mono ?_
  rintro e w ⟨rfl, g⟩
  have HG2 := Lib.hid (HG.out.trans g); have HH2 := Lib.hid (HH.out.grown g)
  clear g HG HH
  go_wp2_with fail
  go_loopw [5, 6] (fun n i wr => SendsR w0 p bm M n i wr) (fun _ i _ => 61 - (intOf i).toNat)
  case atStart => exact ⟨0, 0, [], Nat.zero_le _, by omega, Nat.le_refl _, rfl, rfl, HG2.out, HH2.out, rfl⟩
  case round =>
    obtain ⟨k, m, es, hkM, hk60, hmk, rfl, rfl, hg, hH, hes⟩ := hrel
    have G := Lib.hid hg; have H := Lib.hid hH; have HES := Lib.hid hes
    clear hg hH hes HG2 HH2
    by_cases hlt : k < M
    case neg =>
      obtain rfl : k = M := by omega
      go_wp2_with fail
      go_ret
      exact ⟨rfl, G.out⟩
    by_cases h60 : k < 60
    case neg =>
      obtain rfl : k = 60 := by omega
      go_wp2_with fail
      go_ret
      exact ⟨rfl, G.out⟩
    have hks : k < s.length := by rw [HM.out]; exact hlt
    obtain ⟨g, o, c3, hv2, hgB2, hrow2⟩ := HSA.out k hks
    have HGB := Lib.hid hgB2
    have e2 := (Value.slice.inj hv2).1
    subst e2
    obtain ⟨a, ha⟩ : ∃ x, s[k] = x := ⟨_, rfl⟩
    rw [ha] at hrow2
    have HAW := Lib.hid (show a.wf from HSW.out a (ha ▸ List.getElem_mem hks))
    obtain ⟨DT, hDT⟩ : ∃ z, a.data = z := ⟨_, rfl⟩
    obtain ⟨TM, hTM⟩ : ∃ z, a.tm = z := ⟨_, rfl⟩
    have F4 := Lib.hid (show RowAt w0 g (o + k * 11 + 4) [.string DT] from RowAt.one (by have := hrow2 4 _ rfl; rw [hDT] at this; exact this))
    have F5 := Lib.hid (show RowAt w0 g (o + k * 11 + 5) [.int .i64 TM] from RowAt.one (by have := hrow2 5 _ rfl; rw [hTM] at this; exact this))
    have HD := Lib.hid (show DT.size ≤ maxLen ∧ i64R TM from ⟨hDT ▸ HAW.out.data, hTM ▸ HAW.out.tm⟩)
    have hix : ¬ ((M : Int) ≤ (k : Int)) := by omega
    have HMK := Lib.hid (show m ≤ 60 ∧ m ≤ k ∧ k < 60 ∧ k < M by omega)
    clear hrow2 ha hv2 hks hDT hTM
    have c4 : wr.cell? ⟨g, o + k * 11 + 4, none⟩ = some (.string DT) := by have := (F4.out.grown G.out (by simp)) 0 _ rfl; rwa [Nat.add_zero] at this
    by_cases hbig : 1000 < DT.size
    · have d : decide ((1000 : Int) < (DT.size : Int)) = true := by simp; omega
      clear hbig
      go_wp2_with fail
      exact ⟨⟨k + 1, m, es, by omega, by omega, by omega, by go_num, by first | rfl | trivial, G.out, H.out, HES.out⟩, by simp [intOf]; omega⟩
    have d : decide ((1000 : Int) < (DT.size : Int)) = false := by simp; omega
    clear hbig
    obtain ⟨hn1, hk1, hr1, hl1⟩ := ents_facts (by omega) HES.out
    have HF := Lib.hid (show (es.map (·.key)).Nodup ∧ (∀ e ∈ es, e.key.size ≤ maxLen) ∧ es.length = m from ⟨hn1, hk1, hl1⟩)
    clear hn1 hk1 hr1 hl1
    have hwf := pk_wf20 (m := m) (by omega) HD.out.1 HD.out.2
    have HRR := Lib.hid (fun u (gg : wr.grownBy u none) => HR.out.grown (G.out.trans gg) (by simp))
    cases hok : okPacket ⟨((m + 1 : Nat) : Int), aS, DT, TM⟩ with
    | false =>
      have CS := Lib.hid (fun u (gg : wr.grownBy u none) => sendNo_ok (H.out.grown gg) DT TM hwf hok (HRR.out u gg))
      clear hok hwf
      go_upto_region 9 with fail
      have O := OwF.start (fun _ => False) wr.drew
      have gd := dr1 wr
      have GD := Lib.hid gd
      clear gd c4
      refine wp_region_J (rdf [(5, g, (o + k * 11 + 4), [(.string DT)]), (10, g, (o + k * 11 + 5), [(.int .i64 TM)])]) [11, 15, 16] (by kernel_rfl) (RdA.cons (F4.out.grown (G.out.trans GD.out) (by simp)) (RdA.cons (F5.out.grown (G.out.trans GD.out) (by simp)) RdA.nil)) (fun hH => ?_)
      refine jp 0 ((.pointer (some ⟨p, 0, none⟩))) (Still.all hH) ?_
      simp only [Act.put, jq1, jq2, jq3, jq4, jq5, jq6]
      refine jp 1 ((.slice (some ⟨g, o, none⟩) M dp)) (Still.all hH) ?_
      simp only [Act.put, jq1, jq2, jq3, jq4, jq5, jq6]
      refine jp 2 ((.int .i64 (k : Int))) (Still.all hH) ?_
      simp only [Act.put, jq1, jq2, jq3, jq4, jq5, jq6]
      refine jp 3 ((.pointer (some ⟨g, o + k * 11, none⟩))) (Still.all hH) ?_
      simp only [Act.put, jq1, jq2, jq3, jq4, jq5, jq6]
      refine jp 4 ((.pointer (some ⟨g, o + k * 11 + 4, none⟩))) (Still.all hH) ?_
      simp only [Act.put, jq1, jq2, jq3, jq4, jq5, jq6]
      refine jr 0 5 ((.string DT)) rfl rfl (yields_cell (by rfl) 9 _ rfl g (o + k * 11 + 4) rfl (.string DT) _ (fun W h => h) Tryd.underlying9 rfl) (Still.all hH) ?_
      simp only [Act.put, jq1, jq2, jq3, jq4, jq5, jq6]
      refine jp 6 ((.slice (some ⟨g, o, none⟩) M dp)) (Still.all hH) ?_
      simp only [Act.put, jq1, jq2, jq3, jq4, jq5, jq6]
      refine jp 7 ((.int .i64 (k : Int))) (Still.all hH) ?_
      simp only [Act.put, jq1, jq2, jq3, jq4, jq5, jq6]
      refine jp 8 ((.pointer (some ⟨g, o + k * 11, none⟩))) (Still.all hH) ?_
      simp only [Act.put, jq1, jq2, jq3, jq4, jq5, jq6]
      refine jp 9 ((.pointer (some ⟨g, o + k * 11 + 5, none⟩))) (Still.all hH) ?_
      simp only [Act.put, jq1, jq2, jq3, jq4, jq5, jq6]
      refine jr 1 10 ((.int .i64 TM)) rfl rfl (yields_cell (by rfl) 3 _ rfl g (o + k * 11 + 5) rfl (.int .i64 TM) _ (fun W h => h) Tryd.underlying3 rfl) (Still.all hH) ?_
      simp only [Act.put, jq1, jq2, jq3, jq4, jq5, jq6]
      refine wpAnyJ_ready (rs := [11, 15]) (by kernel_rfl) (by simp) ?_
      refine AllJ.keep rfl (by rfl) (by rfl) (fun K hK => ?_) (AllJ.keep rfl (by rfl) (by rfl) (fun K hK => ?_) (AllJ.nil))
      · refine wp_call 10 _ _ (by rfl) (enters Tryd.func10 (by kernel_rfl) rfl) (by rfl) (CS.out _ (GD.out.trans (O.tch.grown (fun _ h => h.elim)))) ?_
        rintro e u ⟨rfl, g1⟩
        refine ⟨_, rfl, ?_⟩
        replace O := O.call g1
        simp only [Act.put, jq1, jq2, jq3, jq4, jq5, jq6]
        refine hK.out _ _ (RdA.grown hH g1) ?_
        replace hH := RdA.grown hH g1
        clear hK K
        clear g1
        refine jp 12 ((.tuple #[.agg ZPk.toArray, .int .i64 61])) (Still.all hH) ?_
        simp only [Act.put, jq1, jq2, jq3, jq4, jq5, jq6]
        refine jp 13 ((.agg ZPk.toArray)) (Still.all hH) ?_
        simp only [Act.put, jq1, jq2, jq3, jq4, jq5, jq6]
        refine jp 14 ((.int .i64 61)) (Still.all hH) ?_
        simp only [Act.put, jq1, jq2, jq3, jq4, jq5, jq6]
        refine wpAnyJ_ready (rs := [15]) (by kernel_rfl) (by simp) ?_
        refine AllJ.keep rfl (by rfl) (by rfl) (fun K hK => ?_) (AllJ.nil)
        refine wp_of_alloc 23 rfl ZPk ZPk_info O ?_
        clear O
        intro b7 u g1 O
        simp only [Act.put, jq1, jq2, jq3, jq4, jq5, jq6]
        refine hK.out _ _ (RdA.grown hH g1) ?_
        replace hH := RdA.grown hH g1
        clear hK K
        clear g1
        refine wpAnyJ_ready (rs := [16]) (by kernel_rfl) (by simp) ?_
        refine AllJ.turn rfl (by rfl) (by rfl) (fun K hK => ?_) (AllJ.nil)
        refine wp_of_store 23 _ _ rfl O 0 b7 rfl ZPk ZPk _ rfl rfl rfl ZPk_one0 sizePk0 ?_
        clear O
        intro u O
        simp only [List.set_cons_zero] at O
        simp only [Act.put, jq1, jq2, jq3, jq4, jq5, jq6]
        refine hK.out _ _ (waits_all (by kernel_rfl)) ?_
        clear hK K hH
        refine jp 17 ((.int .i64 61)) (Still.none (by kernel_rfl)) ?_
        simp only [Act.put, jq1, jq2, jq3, jq4, jq5, jq6]
        refine wpAnyJ_done (by kernel_rfl) ?_ _
        have H2 := Lib.hid (H.out.grown (GD.out.trans (O.tch.grown (fun _ h => h.elim))))
        have CE := Lib.hid (entries_ok HF.out.1 HF.out.2.1 (by have := HMK.out; omega) H2.out)
        go_wp2_with fail
        refine CE.out.mono ?_
        rintro e w ⟨v, ys, rfl, hperm, hrow, g⟩
        replace O := O.call g
        have HL := Lib.hid (show ys.length = m from hperm.length_eq.trans HF.out.2.2)
        have HRW := Lib.hid hrow
        clear hperm hrow g H2 CE
        obtain ⟨a1, c1, hs, _⟩ := HRW.out.shape
        subst hs
        have CX := Lib.hid (fun u (gg : w0.grownBy u none) => True.intro)
        have CNX := Lib.hid (fun u (gg : wr.drew.grownBy u none) => chNext_ok ((H.out.grown GD.out).grown gg))
        have HLL := HL.out
        have ewm := IntWalk.i64_in ((m : Int) + 1) (by have := HMK.out; omega)
        rw [HLL]
        go_upto_region 13 with fail
        replace O := O.drew
        refine wp_region_J (rdf []) [1] (by kernel_rfl) RdA.nil (fun hH => ?_)
        refine jp 0 ((.pointer (some ⟨p, 0, none⟩))) (Still.all hH) ?_
        simp only [Act.put, jq1, jq2, jq3, jq4, jq5, jq6]
        refine jp 2 ((.int .i64 (m : Int))) (Still.all hH) ?_
        simp only [Act.put, jq1, jq2, jq3, jq4, jq5, jq6]
        refine jp 3 ((.int .i64 ((m : Int) + 1))) (Still.all hH) ?_
        simp only [Act.put, jq1, jq2, jq3, jq4, jq5, jq6]
        refine wpAnyJ_ready (rs := [1]) (by kernel_rfl) (by simp) ?_
        refine AllJ.keep rfl (by rfl) (by rfl) (fun K hK => ?_) (AllJ.nil)
        refine wp_call 12 _ _ (by rfl) (enters Tryd.func12 (by kernel_rfl) rfl) (by rfl) (CNX.out _ (O.tch.grown (fun _ h => h.elim))) ?_
        rintro e u ⟨rfl, g1⟩
        refine ⟨_, rfl, ?_⟩
        replace O := O.call g1
        simp only [Act.put, jq1, jq2, jq3, jq4, jq5, jq6]
        refine hK.out _ _ (RdA.grown hH g1) ?_
        replace hH := RdA.grown hH g1
        clear hK K
        clear g1
        refine jp 4 ((.bool false)) (Still.all hH) ?_
        simp only [Act.put, jq1, jq2, jq3, jq4, jq5, jq6]
        refine jp 5 ((.bool false)) (Still.all hH) ?_
        simp only [Act.put, jq1, jq2, jq3, jq4, jq5, jq6]
        refine jp 6 ((.slice a1 m c1)) (Still.all hH) ?_
        simp only [Act.put, jq1, jq2, jq3, jq4, jq5, jq6]
        refine jp 7 ((.int .i64 (m : Int))) (Still.all hH) ?_
        simp only [Act.put, jq1, jq2, jq3, jq4, jq5, jq6]
        refine jp 8 ((.int .i64 (m : Int))) (Still.all hH) ?_
        simp only [Act.put, jq1, jq2, jq3, jq4, jq5, jq6]
        refine jp 9 ((.bool false)) (Still.all hH) ?_
        simp only [Act.put, jq1, jq2, jq3, jq4, jq5, jq6]
        refine jp 10 ((.bool false)) (Still.all hH) ?_
        simp only [Act.put, jq1, jq2, jq3, jq4, jq5, jq6]
        refine jp 11 ((.bool false)) (Still.all hH) ?_
        simp only [Act.put, jq1, jq2, jq3, jq4, jq5, jq6]
        refine jp 12 ((.int .i64 61)) (Still.all hH) ?_
        simp only [Act.put, jq1, jq2, jq3, jq4, jq5, jq6]
        refine jp 13 ((.bool false)) (Still.all hH) ?_
        simp only [Act.put, jq1, jq2, jq3, jq4, jq5, jq6]
        refine jp 14 ((.bool false)) (Still.all hH) ?_
        simp only [Act.put, jq1, jq2, jq3, jq4, jq5, jq6]
        refine jp 15 undef (Still.all hH) ?_ (hy := Or.inr ⟨by rfl, rfl⟩)
        simp only [Act.put, jq1, jq2, jq3, jq4, jq5, jq6]
        refine jp 16 undef (Still.all hH) ?_ (hy := Or.inr ⟨by rfl, rfl⟩)
        simp only [Act.put, jq1, jq2, jq3, jq4, jq5, jq6]
        refine jp 17 undef (Still.all hH) ?_ (hy := Or.inr ⟨by rfl, rfl⟩)
        simp only [Act.put, jq1, jq2, jq3, jq4, jq5, jq6]
        refine jp 18 undef (Still.all hH) ?_ (hy := Or.inr ⟨by rfl, rfl⟩)
        simp only [Act.put, jq1, jq2, jq3, jq4, jq5, jq6]
        refine jp 19 undef (Still.all hH) ?_ (hy := Or.inr ⟨by rfl, rfl⟩)
        simp only [Act.put, jq1, jq2, jq3, jq4, jq5, jq6]
        refine jp 20 undef (Still.all hH) ?_ (hy := Or.inr ⟨by rfl, rfl⟩)
        simp only [Act.put, jq1, jq2, jq3, jq4, jq5, jq6]
        refine jp 21 undef (Still.all hH) ?_ (hy := Or.inr ⟨by rfl, rfl⟩)
        simp only [Act.put, jq1, jq2, jq3, jq4, jq5, jq6]
        refine jp 22 undef (Still.all hH) ?_ (hy := Or.inr ⟨by rfl, rfl⟩)
        simp only [Act.put, jq1, jq2, jq3, jq4, jq5, jq6]
        refine jp 23 undef (Still.all hH) ?_ (hy := Or.inr ⟨by rfl, rfl⟩)
        simp only [Act.put, jq1, jq2, jq3, jq4, jq5, jq6]
        refine jp 24 undef (Still.all hH) ?_ (hy := Or.inr ⟨by rfl, rfl⟩)
        simp only [Act.put, jq1, jq2, jq3, jq4, jq5, jq6]
        refine jp 25 undef (Still.all hH) ?_ (hy := Or.inr ⟨by rfl, rfl⟩)
        simp only [Act.put, jq1, jq2, jq3, jq4, jq5, jq6]
        refine jp 26 undef (Still.all hH) ?_ (hy := Or.inr ⟨by rfl, rfl⟩)
        simp only [Act.put, jq1, jq2, jq3, jq4, jq5, jq6]
        refine jp 27 undef (Still.all hH) ?_ (hy := Or.inr ⟨by rfl, rfl⟩)
        simp only [Act.put, jq1, jq2, jq3, jq4, jq5, jq6]
        refine jp 28 undef (Still.all hH) ?_ (hy := Or.inr ⟨by rfl, rfl⟩)
        simp only [Act.put, jq1, jq2, jq3, jq4, jq5, jq6]
        refine jp 29 undef (Still.all hH) ?_ (hy := Or.inr ⟨by rfl, rfl⟩)
        simp only [Act.put, jq1, jq2, jq3, jq4, jq5, jq6]
        refine jp 30 undef (Still.all hH) ?_ (hy := Or.inr ⟨by rfl, rfl⟩)
        simp only [Act.put, jq1, jq2, jq3, jq4, jq5, jq6]
        refine jp 31 undef (Still.all hH) ?_ (hy := Or.inr ⟨by rfl, rfl⟩)
        simp only [Act.put, jq1, jq2, jq3, jq4, jq5, jq6]
        refine jp 32 undef (Still.all hH) ?_ (hy := Or.inr ⟨by rfl, rfl⟩)
        simp only [Act.put, jq1, jq2, jq3, jq4, jq5, jq6]
        refine jp 33 undef (Still.all hH) ?_ (hy := Or.inr ⟨by rfl, rfl⟩)
        simp only [Act.put, jq1, jq2, jq3, jq4, jq5, jq6]
        refine jp 34 undef (Still.all hH) ?_ (hy := Or.inr ⟨by rfl, rfl⟩)
        simp only [Act.put, jq1, jq2, jq3, jq4, jq5, jq6]
        refine jp 35 undef (Still.all hH) ?_ (hy := Or.inr ⟨by rfl, rfl⟩)
        simp only [Act.put, jq1, jq2, jq3, jq4, jq5, jq6]
        refine jp 36 undef (Still.all hH) ?_ (hy := Or.inr ⟨by rfl, rfl⟩)
        simp only [Act.put, jq1, jq2, jq3, jq4, jq5, jq6]
        refine jp 37 undef (Still.all hH) ?_ (hy := Or.inr ⟨by rfl, rfl⟩)
        simp only [Act.put, jq1, jq2, jq3, jq4, jq5, jq6]
        refine jp 38 undef (Still.all hH) ?_ (hy := Or.inr ⟨by rfl, rfl⟩)
        simp only [Act.put, jq1, jq2, jq3, jq4, jq5, jq6]
        refine jp 39 undef (Still.all hH) ?_ (hy := Or.inr ⟨by rfl, rfl⟩)
        simp only [Act.put, jq1, jq2, jq3, jq4, jq5, jq6]
        refine jp 40 undef (Still.all hH) ?_ (hy := Or.inr ⟨by rfl, rfl⟩)
        simp only [Act.put, jq1, jq2, jq3, jq4, jq5, jq6]
        refine jp 41 undef (Still.all hH) ?_ (hy := Or.inr ⟨by rfl, rfl⟩)
        simp only [Act.put, jq1, jq2, jq3, jq4, jq5, jq6]
        refine jp 42 undef (Still.all hH) ?_ (hy := Or.inr ⟨by rfl, rfl⟩)
        simp only [Act.put, jq1, jq2, jq3, jq4, jq5, jq6]
        refine jp 43 undef (Still.all hH) ?_ (hy := Or.inr ⟨by rfl, rfl⟩)
        simp only [Act.put, jq1, jq2, jq3, jq4, jq5, jq6]
        refine jp 44 ((.bool false)) (Still.all hH) ?_
        simp only [Act.put, jq1, jq2, jq3, jq4, jq5, jq6]
        refine jp 45 ((.bool false)) (Still.all hH) ?_
        simp only [Act.put, jq1, jq2, jq3, jq4, jq5, jq6]
        refine wpAnyJ_done (by kernel_rfl) ?_ _
        clear hH
        go_wp2_with fail
        exact ⟨⟨k + 1, m, es, by have := HMK.out; omega, by have := HMK.out; omega, by have := HMK.out; omega, by go_num, by first | rfl | trivial, G.out.trans (GD.out.trans (O.tch.grown (fun _ h => h.elim))), (H.out.grown GD.out).grown (O.tch.grown (fun _ h => h.elim)), HES.out⟩, by simp [intOf]; omega⟩
      · refine wp_of_alloc 23 rfl ZPk ZPk_info O ?_
        clear O
        intro b7 u g1 O
        simp only [Act.put, jq1, jq2, jq3, jq4, jq5, jq6]
        refine hK.out _ _ (RdA.grown hH g1) ?_
        replace hH := RdA.grown hH g1
        clear hK K
        clear g1
        refine wpAnyJ_ready (rs := [11]) (by kernel_rfl) (by simp) ?_
        refine AllJ.keep rfl (by rfl) (by rfl) (fun K hK => ?_) (AllJ.nil)
        refine wp_call 10 _ _ (by rfl) (enters Tryd.func10 (by kernel_rfl) rfl) (by rfl) (CS.out _ (GD.out.trans (O.tch.grown (fun _ h => h.elim)))) ?_
        rintro e u ⟨rfl, g1⟩
        refine ⟨_, rfl, ?_⟩
        replace O := O.call g1
        simp only [Act.put, jq1, jq2, jq3, jq4, jq5, jq6]
        refine hK.out _ _ (RdA.grown hH g1) ?_
        replace hH := RdA.grown hH g1
        clear hK K
        clear g1
        refine jp 12 ((.tuple #[.agg ZPk.toArray, .int .i64 61])) (Still.all hH) ?_
        simp only [Act.put, jq1, jq2, jq3, jq4, jq5, jq6]
        refine jp 13 ((.agg ZPk.toArray)) (Still.all hH) ?_
        simp only [Act.put, jq1, jq2, jq3, jq4, jq5, jq6]
        refine jp 14 ((.int .i64 61)) (Still.all hH) ?_
        simp only [Act.put, jq1, jq2, jq3, jq4, jq5, jq6]
        refine wpAnyJ_ready (rs := [16]) (by kernel_rfl) (by simp) ?_
        refine AllJ.turn rfl (by rfl) (by rfl) (fun K hK => ?_) (AllJ.nil)
        refine wp_of_store 23 _ _ rfl O 0 b7 rfl ZPk ZPk _ rfl rfl rfl ZPk_one0 sizePk0 ?_
        clear O
        intro u O
        simp only [List.set_cons_zero] at O
        simp only [Act.put, jq1, jq2, jq3, jq4, jq5, jq6]
        refine hK.out _ _ (waits_all (by kernel_rfl)) ?_
        clear hK K hH
        refine jp 17 ((.int .i64 61)) (Still.none (by kernel_rfl)) ?_
        simp only [Act.put, jq1, jq2, jq3, jq4, jq5, jq6]
        refine wpAnyJ_done (by kernel_rfl) ?_ _
        have H2 := Lib.hid (H.out.grown (GD.out.trans (O.tch.grown (fun _ h => h.elim))))
        have CE := Lib.hid (entries_ok HF.out.1 HF.out.2.1 (by have := HMK.out; omega) H2.out)
        go_wp2_with fail
        refine CE.out.mono ?_
        rintro e w ⟨v, ys, rfl, hperm, hrow, g⟩
        replace O := O.call g
        have HL := Lib.hid (show ys.length = m from hperm.length_eq.trans HF.out.2.2)
        have HRW := Lib.hid hrow
        clear hperm hrow g H2 CE
        obtain ⟨a1, c1, hs, _⟩ := HRW.out.shape
        subst hs
        have CX := Lib.hid (fun u (gg : w0.grownBy u none) => True.intro)
        have CNX := Lib.hid (fun u (gg : wr.drew.grownBy u none) => chNext_ok ((H.out.grown GD.out).grown gg))
        have HLL := HL.out
        have ewm := IntWalk.i64_in ((m : Int) + 1) (by have := HMK.out; omega)
        rw [HLL]
        go_upto_region 13 with fail
        replace O := O.drew
        refine wp_region_J (rdf []) [1] (by kernel_rfl) RdA.nil (fun hH => ?_)
        refine jp 0 ((.pointer (some ⟨p, 0, none⟩))) (Still.all hH) ?_
        simp only [Act.put, jq1, jq2, jq3, jq4, jq5, jq6]
        refine jp 2 ((.int .i64 (m : Int))) (Still.all hH) ?_
        simp only [Act.put, jq1, jq2, jq3, jq4, jq5, jq6]
        refine jp 3 ((.int .i64 ((m : Int) + 1))) (Still.all hH) ?_
        simp only [Act.put, jq1, jq2, jq3, jq4, jq5, jq6]
        refine wpAnyJ_ready (rs := [1]) (by kernel_rfl) (by simp) ?_
        refine AllJ.keep rfl (by rfl) (by rfl) (fun K hK => ?_) (AllJ.nil)
        refine wp_call 12 _ _ (by rfl) (enters Tryd.func12 (by kernel_rfl) rfl) (by rfl) (CNX.out _ (O.tch.grown (fun _ h => h.elim))) ?_
        rintro e u ⟨rfl, g1⟩
        refine ⟨_, rfl, ?_⟩
        replace O := O.call g1
        simp only [Act.put, jq1, jq2, jq3, jq4, jq5, jq6]
        refine hK.out _ _ (RdA.grown hH g1) ?_
        replace hH := RdA.grown hH g1
        clear hK K
        clear g1
        refine jp 4 ((.bool false)) (Still.all hH) ?_
        simp only [Act.put, jq1, jq2, jq3, jq4, jq5, jq6]
        refine jp 5 ((.bool false)) (Still.all hH) ?_
        simp only [Act.put, jq1, jq2, jq3, jq4, jq5, jq6]
        refine jp 6 ((.slice a1 m c1)) (Still.all hH) ?_
        simp only [Act.put, jq1, jq2, jq3, jq4, jq5, jq6]
        refine jp 7 ((.int .i64 (m : Int))) (Still.all hH) ?_
        simp only [Act.put, jq1, jq2, jq3, jq4, jq5, jq6]
        refine jp 8 ((.int .i64 (m : Int))) (Still.all hH) ?_
        simp only [Act.put, jq1, jq2, jq3, jq4, jq5, jq6]
        refine jp 9 ((.bool false)) (Still.all hH) ?_
        simp only [Act.put, jq1, jq2, jq3, jq4, jq5, jq6]
        refine jp 10 ((.bool false)) (Still.all hH) ?_
        simp only [Act.put, jq1, jq2, jq3, jq4, jq5, jq6]
        refine jp 11 ((.bool false)) (Still.all hH) ?_
        simp only [Act.put, jq1, jq2, jq3, jq4, jq5, jq6]
        refine jp 12 ((.int .i64 61)) (Still.all hH) ?_
        simp only [Act.put, jq1, jq2, jq3, jq4, jq5, jq6]
        refine jp 13 ((.bool false)) (Still.all hH) ?_
        simp only [Act.put, jq1, jq2, jq3, jq4, jq5, jq6]
        refine jp 14 ((.bool false)) (Still.all hH) ?_
        simp only [Act.put, jq1, jq2, jq3, jq4, jq5, jq6]
        refine jp 15 undef (Still.all hH) ?_ (hy := Or.inr ⟨by rfl, rfl⟩)
        simp only [Act.put, jq1, jq2, jq3, jq4, jq5, jq6]
        refine jp 16 undef (Still.all hH) ?_ (hy := Or.inr ⟨by rfl, rfl⟩)
        simp only [Act.put, jq1, jq2, jq3, jq4, jq5, jq6]
        refine jp 17 undef (Still.all hH) ?_ (hy := Or.inr ⟨by rfl, rfl⟩)
        simp only [Act.put, jq1, jq2, jq3, jq4, jq5, jq6]
        refine jp 18 undef (Still.all hH) ?_ (hy := Or.inr ⟨by rfl, rfl⟩)
        simp only [Act.put, jq1, jq2, jq3, jq4, jq5, jq6]
        refine jp 19 undef (Still.all hH) ?_ (hy := Or.inr ⟨by rfl, rfl⟩)
        simp only [Act.put, jq1, jq2, jq3, jq4, jq5, jq6]
        refine jp 20 undef (Still.all hH) ?_ (hy := Or.inr ⟨by rfl, rfl⟩)
        simp only [Act.put, jq1, jq2, jq3, jq4, jq5, jq6]
        refine jp 21 undef (Still.all hH) ?_ (hy := Or.inr ⟨by rfl, rfl⟩)
        simp only [Act.put, jq1, jq2, jq3, jq4, jq5, jq6]
        refine jp 22 undef (Still.all hH) ?_ (hy := Or.inr ⟨by rfl, rfl⟩)
        simp only [Act.put, jq1, jq2, jq3, jq4, jq5, jq6]
        refine jp 23 undef (Still.all hH) ?_ (hy := Or.inr ⟨by rfl, rfl⟩)
        simp only [Act.put, jq1, jq2, jq3, jq4, jq5, jq6]
        refine jp 24 undef (Still.all hH) ?_ (hy := Or.inr ⟨by rfl, rfl⟩)
        simp only [Act.put, jq1, jq2, jq3, jq4, jq5, jq6]
        refine jp 25 undef (Still.all hH) ?_ (hy := Or.inr ⟨by rfl, rfl⟩)
        simp only [Act.put, jq1, jq2, jq3, jq4, jq5, jq6]
        refine jp 26 undef (Still.all hH) ?_ (hy := Or.inr ⟨by rfl, rfl⟩)
        simp only [Act.put, jq1, jq2, jq3, jq4, jq5, jq6]
        refine jp 27 undef (Still.all hH) ?_ (hy := Or.inr ⟨by rfl, rfl⟩)
        simp only [Act.put, jq1, jq2, jq3, jq4, jq5, jq6]
        refine jp 28 undef (Still.all hH) ?_ (hy := Or.inr ⟨by rfl, rfl⟩)
        simp only [Act.put, jq1, jq2, jq3, jq4, jq5, jq6]
        refine jp 29 undef (Still.all hH) ?_ (hy := Or.inr ⟨by rfl, rfl⟩)
        simp only [Act.put, jq1, jq2, jq3, jq4, jq5, jq6]
        refine jp 30 undef (Still.all hH) ?_ (hy := Or.inr ⟨by rfl, rfl⟩)
        simp only [Act.put, jq1, jq2, jq3, jq4, jq5, jq6]
        refine jp 31 undef (Still.all hH) ?_ (hy := Or.inr ⟨by rfl, rfl⟩)
        simp only [Act.put, jq1, jq2, jq3, jq4, jq5, jq6]
        refine jp 32 undef (Still.all hH) ?_ (hy := Or.inr ⟨by rfl, rfl⟩)
        simp only [Act.put, jq1, jq2, jq3, jq4, jq5, jq6]
        refine jp 33 undef (Still.all hH) ?_ (hy := Or.inr ⟨by rfl, rfl⟩)
        simp only [Act.put, jq1, jq2, jq3, jq4, jq5, jq6]
        refine jp 34 undef (Still.all hH) ?_ (hy := Or.inr ⟨by rfl, rfl⟩)
        simp only [Act.put, jq1, jq2, jq3, jq4, jq5, jq6]
        refine jp 35 undef (Still.all hH) ?_ (hy := Or.inr ⟨by rfl, rfl⟩)
        simp only [Act.put, jq1, jq2, jq3, jq4, jq5, jq6]
        refine jp 36 undef (Still.all hH) ?_ (hy := Or.inr ⟨by rfl, rfl⟩)
        simp only [Act.put, jq1, jq2, jq3, jq4, jq5, jq6]
        refine jp 37 undef (Still.all hH) ?_ (hy := Or.inr ⟨by rfl, rfl⟩)
        simp only [Act.put, jq1, jq2, jq3, jq4, jq5, jq6]
        refine jp 38 undef (Still.all hH) ?_ (hy := Or.inr ⟨by rfl, rfl⟩)
        simp only [Act.put, jq1, jq2, jq3, jq4, jq5, jq6]
        refine jp 39 undef (Still.all hH) ?_ (hy := Or.inr ⟨by rfl, rfl⟩)
        simp only [Act.put, jq1, jq2, jq3, jq4, jq5, jq6]
        refine jp 40 undef (Still.all hH) ?_ (hy := Or.inr ⟨by rfl, rfl⟩)
        simp only [Act.put, jq1, jq2, jq3, jq4, jq5, jq6]
        refine jp 41 undef (Still.all hH) ?_ (hy := Or.inr ⟨by rfl, rfl⟩)
        simp only [Act.put, jq1, jq2, jq3, jq4, jq5, jq6]
        refine jp 42 undef (Still.all hH) ?_ (hy := Or.inr ⟨by rfl, rfl⟩)
        simp only [Act.put, jq1, jq2, jq3, jq4, jq5, jq6]
        refine jp 43 undef (Still.all hH) ?_ (hy := Or.inr ⟨by rfl, rfl⟩)
        simp only [Act.put, jq1, jq2, jq3, jq4, jq5, jq6]
        refine jp 44 ((.bool false)) (Still.all hH) ?_
        simp only [Act.put, jq1, jq2, jq3, jq4, jq5, jq6]
        refine jp 45 ((.bool false)) (Still.all hH) ?_
        simp only [Act.put, jq1, jq2, jq3, jq4, jq5, jq6]
        refine wpAnyJ_done (by kernel_rfl) ?_ _
        clear hH
        go_wp2_with fail
        exact ⟨⟨k + 1, m, es, by have := HMK.out; omega, by have := HMK.out; omega, by have := HMK.out; omega, by go_num, by first | rfl | trivial, G.out.trans (GD.out.trans (O.tch.grown (fun _ h => h.elim))), (H.out.grown GD.out).grown (O.tch.grown (fun _ h => h.elim)), HES.out⟩, by simp [intOf]; omega⟩
    | true =>
      obtain ⟨q, hq⟩ : ∃ q, m + 1 = q := ⟨_, rfl⟩
      have HQ := Lib.hid hq
      have ewq := IntWalk.i64_in ((m : Int) + 1) (by have := HMK.out; omega)
      have eq1 : (m : Int) + 1 = (q : Int) := by rw [← hq]; rfl
      rw [eq1] at ewq
      have EWQ := Lib.hid ewq; have EQ1 := Lib.hid eq1
      rw [hq] at hwf hok
      obtain ⟨v, hvd⟩ : ∃ v : PacketD, (⟨(q : Int), aS, DT, TM⟩ : PacketD) = v := ⟨_, rfl⟩
      have HVC := Lib.hid (show v.cells = [.int .i64 (q : Int), .string aS, .string DT, .int .i64 TM] by rw [← hvd]; rfl)
      have CS := Lib.hid (fun u (gg : wr.grownBy u none) => sendN_ok (m := q) (n := m) (by have := HMK.out; omega) (by have := HMK.out; omega) (by have h2 := H.out.grown gg; rw [hq] at h2; exact h2) DT TM hwf hok HP.out (HRR.out u gg))
      rw [hvd] at CS hwf hok
      have HV := Lib.hid hwf
      have HE := Lib.hid (show errP v = 0 by unfold errP; rw [hok]; rfl)
      have CH := Lib.hid (fun w hR => cHash_ok v HV.out w hR)
      have LX := Lib.hid (hashP_len v)
      unfold SendQ at CS
      obtain ⟨X, hX⟩ : ∃ z, hashP v = z := ⟨_, rfl⟩
      rw [hX] at CH LX CS
      rw [HE.out] at CH
      have HMM := Lib.hid (show m < 100 ∧ q = m + 1 from ⟨by have := HMK.out; omega, hq.symm⟩)
      clear hok hwf ewq eq1 hvd hX hq
      go_upto_region 9 with fail
      have O := OwF.start (fun _ => False) wr.drew
      have gd := dr1 wr
      have GD := Lib.hid gd
      clear gd c4
      have PL := Lib.hid (show p < wr.drew.heap.size ∧ bm < wr.drew.heap.size from ⟨H.out.blk.lt, H.out.map.lt⟩)
      refine wp_region_J (rdf [(5, g, (o + k * 11 + 4), [(.string DT)]), (10, g, (o + k * 11 + 5), [(.int .i64 TM)])]) [11, 15, 16] (by kernel_rfl) (RdA.cons (F4.out.grown (G.out.trans GD.out) (by simp)) (RdA.cons (F5.out.grown (G.out.trans GD.out) (by simp)) RdA.nil)) (fun hH => ?_)
      refine jp 0 ((.pointer (some ⟨p, 0, none⟩))) (Still.all hH) ?_
      simp only [Act.put, jq1, jq2, jq3, jq4, jq5, jq6]
      refine jp 1 ((.slice (some ⟨g, o, none⟩) M dp)) (Still.all hH) ?_
      simp only [Act.put, jq1, jq2, jq3, jq4, jq5, jq6]
      refine jp 2 ((.int .i64 (k : Int))) (Still.all hH) ?_
      simp only [Act.put, jq1, jq2, jq3, jq4, jq5, jq6]
      refine jp 3 ((.pointer (some ⟨g, o + k * 11, none⟩))) (Still.all hH) ?_
      simp only [Act.put, jq1, jq2, jq3, jq4, jq5, jq6]
      refine jp 4 ((.pointer (some ⟨g, o + k * 11 + 4, none⟩))) (Still.all hH) ?_
      simp only [Act.put, jq1, jq2, jq3, jq4, jq5, jq6]
      refine jr 0 5 ((.string DT)) rfl rfl (yields_cell (by rfl) 9 _ rfl g (o + k * 11 + 4) rfl (.string DT) _ (fun W h => h) Tryd.underlying9 rfl) (Still.all hH) ?_
      simp only [Act.put, jq1, jq2, jq3, jq4, jq5, jq6]
      refine jp 6 ((.slice (some ⟨g, o, none⟩) M dp)) (Still.all hH) ?_
      simp only [Act.put, jq1, jq2, jq3, jq4, jq5, jq6]
      refine jp 7 ((.int .i64 (k : Int))) (Still.all hH) ?_
      simp only [Act.put, jq1, jq2, jq3, jq4, jq5, jq6]
      refine jp 8 ((.pointer (some ⟨g, o + k * 11, none⟩))) (Still.all hH) ?_
      simp only [Act.put, jq1, jq2, jq3, jq4, jq5, jq6]
      refine jp 9 ((.pointer (some ⟨g, o + k * 11 + 5, none⟩))) (Still.all hH) ?_
      simp only [Act.put, jq1, jq2, jq3, jq4, jq5, jq6]
      refine jr 1 10 ((.int .i64 TM)) rfl rfl (yields_cell (by rfl) 3 _ rfl g (o + k * 11 + 5) rfl (.int .i64 TM) _ (fun W h => h) Tryd.underlying3 rfl) (Still.all hH) ?_
      simp only [Act.put, jq1, jq2, jq3, jq4, jq5, jq6]
      refine wpAnyJ_ready (rs := [11, 15]) (by kernel_rfl) (by simp) ?_
      refine AllJ.keep rfl (by rfl) (by rfl) (fun K hK => ?_) (AllJ.keep rfl (by rfl) (by rfl) (fun K hK => ?_) (AllJ.nil))
      · refine wp_call 10 _ _ (by rfl) (enters Tryd.func10 (by kernel_rfl) rfl) (by rfl) (CS.out _ (GD.out.trans (O.tch.grown (fun _ h => h.elim)))) ?_
        rintro e u ⟨rfl, hc1, ht1⟩
        refine ⟨_, rfl, ?_⟩
        replace O := O.widen ht1 (fun b hb => hb.elim (fun e => e ▸ PL.out.1) (fun e => e ▸ PL.out.2))
        have HC := Lib.hid hc1
        have HT := Lib.hid O.tch
        have O2 := OwF.start (fun _ => False) u
        clear O
        have O := O2
        clear O2
        simp only [Act.put, jq1, jq2, jq3, jq4, jq5, jq6]
        refine hK.out _ _ (RdA.tch hH ht1 (by intro e he; have := HPB.out; have := HGB.out; simp only [List.mem_cons, List.not_mem_nil, or_false] at he; rcases he with rfl | rfl <;> rintro (h | h) <;> simp only at h <;> omega)) ?_
        replace hH := RdA.tch hH ht1 (by intro e he; have := HPB.out; have := HGB.out; simp only [List.mem_cons, List.not_mem_nil, or_false] at he; rcases he with rfl | rfl <;> rintro (h | h) <;> simp only at h <;> omega)
        clear hK K hc1 ht1
        refine jp 12 ((.tuple #[.agg v.cells.toArray, .int .i64 0])) (Still.all hH) ?_
        simp only [Act.put, jq1, jq2, jq3, jq4, jq5, jq6]
        refine jp 13 ((.agg v.cells.toArray)) (Still.all hH) ?_
        simp only [Act.put, jq1, jq2, jq3, jq4, jq5, jq6]
        refine jp 14 ((.int .i64 0)) (Still.all hH) ?_
        simp only [Act.put, jq1, jq2, jq3, jq4, jq5, jq6]
        refine wpAnyJ_ready (rs := [15]) (by kernel_rfl) (by simp) ?_
        refine AllJ.keep rfl (by rfl) (by rfl) (fun K hK => ?_) (AllJ.nil)
        refine wp_of_alloc 23 rfl ZPk ZPk_info O ?_
        clear O
        intro b7 u g1 O
        have HL7 := Lib.hid (Nat.le_trans HT.out.size ((O.lie 0 rfl).resolve_right id))
        simp only [Act.put, jq1, jq2, jq3, jq4, jq5, jq6]
        refine hK.out _ _ (RdA.grown hH g1) ?_
        replace hH := RdA.grown hH g1
        clear hK K
        clear g1
        refine wpAnyJ_ready (rs := [16]) (by kernel_rfl) (by simp) ?_
        refine AllJ.turn rfl (by rfl) (by rfl) (fun K hK => ?_) (AllJ.nil)
        refine wp_of_store 23 _ _ rfl O 0 b7 rfl v.cells ZPk _ rfl rfl rfl (PacketD_one _) (PacketD.size v HV.out) ?_
        clear O
        intro u O
        simp only [List.set_cons_zero] at O
        simp only [Act.put, jq1, jq2, jq3, jq4, jq5, jq6]
        refine hK.out _ _ (waits_all (by kernel_rfl)) ?_
        clear hK K hH
        refine jp 17 ((.int .i64 0)) (Still.none (by kernel_rfl)) ?_
        simp only [Act.put, jq1, jq2, jq3, jq4, jq5, jq6]
        refine wpAnyJ_done (by kernel_rfl) ?_ _
        have HT2 := Lib.hid (HT.out.trans O.tch (fun b hb hl => by have := HL7.out; first | exact hb.elim | (cases hb; omega)))
        have HC2 := Lib.hid (HC.out.tch O.tch (by have := PL.out; have := HL7.out; intro hb; first | exact hb | (cases hb; omega)) (by have := PL.out; have := HL7.out; intro hb; first | exact hb | (cases hb; omega)))
        have O2 := (OwF.start (fun b => b = b7) _).add (O.at_ 0 rfl) rfl (by simp)
        clear O HT HC
        have O := O2
        clear O2
        have HES2 := Lib.hid (ents_new HES.out ⟨(hexL X).toArray⟩)
        obtain ⟨e1, he1⟩ : ∃ e : EntD, (⟨keyS kCommit (m + 1), ⟨(hexL X).toArray⟩⟩ : EntD) = e := ⟨_, rfl⟩
        have HE1 := Lib.hid (show e1.key = keyS kCommit q ∧ e1.value = ⟨(hexL X).toArray⟩ by rw [← he1, ← HMM.out.2]; exact ⟨rfl, rfl⟩)
        have hc2 := HC2.out
        rw [← HMM.out.2] at hc2
        obtain ⟨es2, hes2⟩ : ∃ l, e1 :: es = l := ⟨_, rfl⟩
        have HMEM := Lib.hid (show e1 ∈ es2 by rw [← hes2]; exact List.mem_cons_self)
        have hD : (entsD es).put (.string (keyS kCommit q).data.toList) (.held (itemV ⟨(hexL X).toArray⟩)) = entsD es2 := by rw [← hes2, ← he1, HMM.out.2]; rfl
        rw [hD] at hc2
        replace HES2 := Lib.hid (show es2.map (·.key) = (keysC q).reverse by have := HES2.out; rw [← hes2, HMM.out.2, ← he1]; exact this)
        replace HC2 := Lib.hid hc2
        clear hc2 hD he1 hes2 HES H
        obtain ⟨hn1, hk1, hr1, hl1⟩ := ents_facts (m := q) (by have := HMM.out; have := HMK.out; omega) HES2.out
        replace HF := Lib.hid (show (es2.map (·.key)).Nodup ∧ (∀ e ∈ es2, e.key.size ≤ maxLen) ∧ (∀ i, has (entsD es2) (keyL (keyS kReceipt i)) = false) ∧ es2.length = q from ⟨hn1, hk1, hr1, hl1⟩)
        clear hn1 hk1 hr1 hl1
        have ewq := EWQ.out
        go_wp2_with fail
        rw [EQ1.out]
        have CE := Lib.hid (entries_ok HF.out.1 HF.out.2.1 (by have := HMM.out; have := HMK.out; omega) HC2.out)
        go_wp2_with fail
        refine CE.out.mono ?_
        rintro e w ⟨vv, ys, rfl, hperm, hrow, gg⟩
        replace O := O.call gg
        have HL := Lib.hid (show ys.length = q from hperm.length_eq.trans HF.out.2.2.2)
        have HPM := Lib.hid hperm
        have HRW := Lib.hid hrow
        clear hperm hrow gg CE
        obtain ⟨a1, c1, hs, _⟩ := HRW.out.shape
        subst hs
        have CNX := Lib.hid (fun u (t : Tch (fun b => b = b7) _ u) => chNext_ok (HC2.out.tch t (by have := PL.out; have := HL7.out; intro hb; cases hb; omega) (by have := PL.out; have := HL7.out; intro hb; cases hb; omega)))
        have HLL := HL.out
        rw [HLL]
        have ewm := IntWalk.i64_in ((q : Int) + 1) (by have := HMM.out; have := HMK.out; omega)
        have ha1 := a_one
        go_upto_region 13 with fail
        replace O := O.drew
        have vcs := HVC.out
        rw [vcs] at O
        have HS4 := (HT2.out.trans O.tch (fun b hb hl => by have := HL7.out; cases hb; omega)).row (F4.out.grown (G.out.trans GD.out) (by simp)) (by have := HPB.out; have := HGB.out; rintro (h | h) <;> omega)
        have HS5 := (HT2.out.trans O.tch (fun b hb hl => by have := HL7.out; cases hb; omega)).row (F5.out.grown (G.out.trans GD.out) (by simp)) (by have := HPB.out; have := HGB.out; rintro (h | h) <;> omega)
        clear vcs
        refine wp_region_J (rdf [(16, b7, 0, [(.int .i64 (q : Int))]), (21, b7, 1, [(.string aS)]), (26, b7, 2, [(.string DT)]), (31, g, (o + k * 11 + 4), [(.string DT)]), (36, b7, 3, [(.int .i64 TM)]), (41, g, (o + k * 11 + 5), [(.int .i64 TM)])]) [1] (by kernel_rfl) (RdA.cons (O.cellr (n := 0) rfl rfl) (RdA.cons (O.cellr (n := 0) rfl rfl) (RdA.cons (O.cellr (n := 0) rfl rfl) (RdA.cons HS4 (RdA.cons (O.cellr (n := 0) rfl rfl) (RdA.cons HS5 RdA.nil)))))) (fun hH => ?_)
        refine jp 0 ((.pointer (some ⟨p, 0, none⟩))) (Still.all hH) ?_
        simp only [Act.put, jq1, jq2, jq3, jq4, jq5, jq6]
        refine jp 2 ((.int .i64 (q : Int))) (Still.all hH) ?_
        simp only [Act.put, jq1, jq2, jq3, jq4, jq5, jq6]
        refine jp 3 ((.int .i64 ((q : Int) + 1))) (Still.all hH) ?_
        simp only [Act.put, jq1, jq2, jq3, jq4, jq5, jq6]
        refine wpAnyJ_ready (rs := [1]) (by kernel_rfl) (by simp) ?_
        refine AllJ.keep rfl (by rfl) (by rfl) (fun K hK => ?_) (AllJ.nil)
        refine wp_call 12 _ _ (by rfl) (enters Tryd.func12 (by kernel_rfl) rfl) (by rfl) (CNX.out _ O.tch) ?_
        rintro e u ⟨rfl, g1⟩
        refine ⟨_, rfl, ?_⟩
        replace O := O.call g1
        replace HRW := Lib.hid ((HRW.out.grown (dr1 _)).grown g1)
        simp only [Act.put, jq1, jq2, jq3, jq4, jq5, jq6]
        refine hK.out _ _ (RdA.grown hH g1) ?_
        replace hH := RdA.grown hH g1
        clear hK K
        clear g1
        refine jp 4 ((.bool false)) (Still.all hH) ?_
        simp only [Act.put, jq1, jq2, jq3, jq4, jq5, jq6]
        refine jp 5 ((.bool false)) (Still.all hH) ?_
        simp only [Act.put, jq1, jq2, jq3, jq4, jq5, jq6]
        refine jp 6 ((.slice a1 q c1)) (Still.all hH) ?_
        simp only [Act.put, jq1, jq2, jq3, jq4, jq5, jq6]
        refine jp 7 ((.int .i64 (q : Int))) (Still.all hH) ?_
        simp only [Act.put, jq1, jq2, jq3, jq4, jq5, jq6]
        refine jp 8 ((.int .i64 (q : Int))) (Still.all hH) ?_
        simp only [Act.put, jq1, jq2, jq3, jq4, jq5, jq6]
        refine jp 9 ((.bool false)) (Still.all hH) ?_
        simp only [Act.put, jq1, jq2, jq3, jq4, jq5, jq6]
        refine jp 10 ((.bool false)) (Still.all hH) ?_
        simp only [Act.put, jq1, jq2, jq3, jq4, jq5, jq6]
        refine jp 11 ((.bool false)) (Still.all hH) ?_
        simp only [Act.put, jq1, jq2, jq3, jq4, jq5, jq6]
        refine jp 12 ((.int .i64 0)) (Still.all hH) ?_
        simp only [Act.put, jq1, jq2, jq3, jq4, jq5, jq6]
        refine jp 13 ((.bool true)) (Still.all hH) ?_
        simp only [Act.put, jq1, jq2, jq3, jq4, jq5, jq6]
        refine jp 14 ((.bool true)) (Still.all hH) ?_
        simp only [Act.put, jq1, jq2, jq3, jq4, jq5, jq6]
        refine jp 15 ((.pointer (some ⟨b7, 0, none⟩))) (Still.all hH) ?_
        simp only [Act.put, jq1, jq2, jq3, jq4, jq5, jq6]
        refine jr 0 16 ((.int .i64 (q : Int))) rfl rfl (yields_cell (by rfl) 3 _ rfl b7 0 rfl (.int .i64 (q : Int)) _ (fun W h => h) Tryd.underlying3 rfl) (Still.all hH) ?_
        simp only [Act.put, jq1, jq2, jq3, jq4, jq5, jq6]
        refine jp 17 ((.int .i64 (q : Int))) (Still.all hH) ?_
        simp only [Act.put, jq1, jq2, jq3, jq4, jq5, jq6]
        refine jp 18 ((.bool false)) (Still.all hH) ?_
        simp only [Act.put, jq1, jq2, jq3, jq4, jq5, jq6]
        refine jp 19 ((.bool false)) (Still.all hH) ?_
        simp only [Act.put, jq1, jq2, jq3, jq4, jq5, jq6]
        refine jp 20 ((.pointer (some ⟨b7, 1, none⟩))) (Still.all hH) ?_
        simp only [Act.put, jq1, jq2, jq3, jq4, jq5, jq6]
        refine jr 1 21 ((.string aS)) rfl rfl (yields_cell (by rfl) 9 _ rfl b7 1 rfl (.string aS) _ (fun W h => h) Tryd.underlying9 rfl) (Still.all hH) ?_
        simp only [Act.put, jq1, jq2, jq3, jq4, jq5, jq6]
        refine jp 22 ((.bool false)) (Still.all hH) ?_
        simp only [Act.put, jq1, jq2, jq3, jq4, jq5, jq6]
        refine jp 23 ((.bool false)) (Still.all hH) ?_
        simp only [Act.put, jq1, jq2, jq3, jq4, jq5, jq6]
        refine jp 24 ((.bool false)) (Still.all hH) ?_
        simp only [Act.put, jq1, jq2, jq3, jq4, jq5, jq6]
        refine jp 25 ((.pointer (some ⟨b7, 2, none⟩))) (Still.all hH) ?_
        simp only [Act.put, jq1, jq2, jq3, jq4, jq5, jq6]
        refine jr 2 26 ((.string DT)) rfl rfl (yields_cell (by rfl) 9 _ rfl b7 2 rfl (.string DT) _ (fun W h => h) Tryd.underlying9 rfl) (Still.all hH) ?_
        simp only [Act.put, jq1, jq2, jq3, jq4, jq5, jq6]
        refine jp 27 ((.slice (some ⟨g, o, none⟩) M dp)) (Still.all hH) ?_
        simp only [Act.put, jq1, jq2, jq3, jq4, jq5, jq6]
        refine jp 28 ((.int .i64 (k : Int))) (Still.all hH) ?_
        simp only [Act.put, jq1, jq2, jq3, jq4, jq5, jq6]
        refine jp 29 ((.pointer (some ⟨g, o + k * 11, none⟩))) (Still.all hH) ?_
        simp only [Act.put, jq1, jq2, jq3, jq4, jq5, jq6]
        refine jp 30 ((.pointer (some ⟨g, o + k * 11 + 4, none⟩))) (Still.all hH) ?_
        simp only [Act.put, jq1, jq2, jq3, jq4, jq5, jq6]
        refine jr 3 31 ((.string DT)) rfl rfl (yields_cell (by rfl) 9 _ rfl g (o + k * 11 + 4) rfl (.string DT) _ (fun W h => h) Tryd.underlying9 rfl) (Still.all hH) ?_
        simp only [Act.put, jq1, jq2, jq3, jq4, jq5, jq6]
        refine jp 32 ((.bool false)) (Still.all hH) ?_
        simp only [Act.put, jq1, jq2, jq3, jq4, jq5, jq6]
        refine jp 33 ((.bool false)) (Still.all hH) ?_
        simp only [Act.put, jq1, jq2, jq3, jq4, jq5, jq6]
        refine jp 34 ((.bool false)) (Still.all hH) ?_
        simp only [Act.put, jq1, jq2, jq3, jq4, jq5, jq6]
        refine jp 35 ((.pointer (some ⟨b7, 3, none⟩))) (Still.all hH) ?_
        simp only [Act.put, jq1, jq2, jq3, jq4, jq5, jq6]
        refine jr 4 36 ((.int .i64 TM)) rfl rfl (yields_cell (by rfl) 3 _ rfl b7 3 rfl (.int .i64 TM) _ (fun W h => h) Tryd.underlying3 rfl) (Still.all hH) ?_
        simp only [Act.put, jq1, jq2, jq3, jq4, jq5, jq6]
        refine jp 37 ((.slice (some ⟨g, o, none⟩) M dp)) (Still.all hH) ?_
        simp only [Act.put, jq1, jq2, jq3, jq4, jq5, jq6]
        refine jp 38 ((.int .i64 (k : Int))) (Still.all hH) ?_
        simp only [Act.put, jq1, jq2, jq3, jq4, jq5, jq6]
        refine jp 39 ((.pointer (some ⟨g, o + k * 11, none⟩))) (Still.all hH) ?_
        simp only [Act.put, jq1, jq2, jq3, jq4, jq5, jq6]
        refine jp 40 ((.pointer (some ⟨g, o + k * 11 + 5, none⟩))) (Still.all hH) ?_
        simp only [Act.put, jq1, jq2, jq3, jq4, jq5, jq6]
        refine jr 5 41 ((.int .i64 TM)) rfl rfl (yields_cell (by rfl) 3 _ rfl g (o + k * 11 + 5) rfl (.int .i64 TM) _ (fun W h => h) Tryd.underlying3 rfl) (Still.all hH) ?_
        simp only [Act.put, jq1, jq2, jq3, jq4, jq5, jq6]
        refine jp 42 ((.bool false)) (Still.all hH) ?_
        simp only [Act.put, jq1, jq2, jq3, jq4, jq5, jq6]
        refine jp 43 ((.bool false)) (Still.all hH) ?_
        simp only [Act.put, jq1, jq2, jq3, jq4, jq5, jq6]
        refine jp 44 ((.bool false)) (Still.all hH) ?_
        simp only [Act.put, jq1, jq2, jq3, jq4, jq5, jq6]
        refine jp 45 ((.bool false)) (Still.all hH) ?_
        simp only [Act.put, jq1, jq2, jq3, jq4, jq5, jq6]
        refine wpAnyJ_done (by kernel_rfl) ?_ _
        clear hH
        have HB := Lib.hid (show RowAt _ b7 0 v.cells by rw [HVC.out]; exact (O.at_ 0 rfl).row)
        have hb7 : ∀ b, b = b7 → b < wr.drew.heap.size → (b = p ∨ b = bm) := fun b hb hl => by have := HL7.out; cases hb; omega
        have T2 := HT2.out.trans O.tch hb7
        have HCU := Lib.hid (HC2.out.tch O.tch (by have := PL.out; have := HL7.out; intro hb; cases hb; omega) (by have := PL.out; have := HL7.out; intro hb; cases hb; omega))
        have HRU := Lib.hid (T2.row (HR.out.grown (G.out.trans GD.out) (by simp)) (by have := HPB.out; have := HRL.out; rintro (h | h) <;> omega))
        have HGU := Lib.hid (((Tch.of_grown (F := fun b => b = p ∨ b = bm) (G.out.trans GD.out)).trans T2 (fun _ h _ => h)).grown (by have := HPB.out; rintro b (rfl | rfl); exact this.1; exact this.2))
        clear T2 hb7 O HT2 HC2
        have O := OwF.start (fun _ => False) u
        have HNQ := Lib.hid (show 1 ≤ q ∧ q < 100 by have := HMM.out; have := HMK.out; omega)
        obtain ⟨S, hS⟩ : ∃ z : ByteArray, ⟨(hexL X).toArray⟩ = z := ⟨_, rfl⟩
        have FD : ∀ w, u.grownBy w none → Calls Tryd.prog 13 #[.slice a1 q c1, .string (keyS kCommit q)] w fun e w' => e = .returned (.tuple #[.string S, .bool true]) ∧ w' = w := fun w g => by
          have h := find_ok (HRW.out.grown g) ((HPM.out.map _).nodup_iff.2 HF.out.1) e1 (HPM.out.mem_iff.2 HMEM.out)
          rw [HL.out, HE1.out.1, HE1.out.2, hS] at h
          exact h
        have CTX := Lib.hid (fun w => rText_ok X LX.out w)
        rw [hS] at CTX
        have FDH := Lib.hid FD
        have RK := Lib.hid (fun w => rkey_ok kCommit (by decide) q HNQ.out.1 HNQ.out.2 w)
        have AN := Lib.hid (fun w (g : u.grownBy w none) => answer_no (HCU.out.grown g) q HNQ.out.2 okS (HF.out.2.2.1 q))
        clear FD hS
        go_wp2_with (first | ((with_reducible refine @wpList_at _ _ _ _ _ _ _ (.load 23 (.tmp 7)) rfl ?_); refine wpList_load_part rfl 23 _ rfl b7 (0) rfl v.cells _ (HB.out.grown (O.tch.grown (fun _ h => h.elim)) (by simp)) Tryd.underlying23 rfl (PacketD.size v HV.out) ?_))
        refine (CH.out _ HRU.out).mono ?_
        rintro e w ⟨rfl, g⟩
        replace O := O.call g
        clear g
        go_wp2_with (first | ((with_reducible refine @wpList_at _ _ _ _ _ _ _ (.alloc 33) rfl ?_); refine @wpList_of_alloc _ _ _ _ _ _ _ _ _ _ 33 rfl ZH ZH_info O rfl ?_; clear O; intro b10 w O) | ((with_reducible refine @wpList_at _ _ _ _ _ _ _ (.store 33 (.tmp 10) (.tmp 117)) rfl ?_); refine @wpList_of_store _ _ _ _ _ _ _ _ _ _ 33 (.tmp 10) (.tmp 117) rfl O 0 b10 rfl (Lib.byteCells X) ZH _ rfl rfl (by rw [Lib.byteCells_length, LX.out]; rfl) (oneCell_bytes _) (sizeH _ (by rw [Lib.byteCells_length, LX.out])) rfl ?_; clear O; intro w O; simp only [List.set_cons_zero] at O))
        refine (RK.out _).mono ?_
        rintro e w ⟨rfl, rfl⟩
        go_wp2_with fail
        refine (FDH.out _ (O.tch.grown (fun _ h => h.elim))).mono ?_
        rintro e w ⟨rfl, rfl⟩
        go_wp2_with (first | ((with_reducible refine @wpList_at _ _ _ _ _ _ _ (.load 33 (.tmp 10)) rfl ?_); refine @wpList_of_whole _ _ _ _ _ _ _ _ _ _ 33 (.tmp 10) rfl O 0 b10 rfl (Lib.byteCells X) _ rfl _ Tryd.underlying33 rfl (sizeH _ (by rw [Lib.byteCells_length, LX.out])) rfl ?_))
        refine (CTX.out _).mono ?_
        rintro e w ⟨rfl, g⟩
        replace O := O.call g
        clear g
        go_wp2_with fail
        refine (AN.out _ (O.tch.grown (fun _ h => h.elim))).mono ?_
        rintro e w ⟨rfl, g⟩
        replace O := O.call g
        clear g
        go_wp2_with fail
        exact ⟨⟨k + 1, q, es2, by have := HMK.out; omega, by have := HMK.out; omega, by have := HMK.out; have := HMM.out; omega, by go_num, by first | rfl | trivial, HGU.out.trans (O.tch.grown (fun _ h => h.elim)), HCU.out.grown (O.tch.grown (fun _ h => h.elim)), HES2.out⟩, by simp [intOf]; omega⟩
      · refine wp_of_alloc 23 rfl ZPk ZPk_info O ?_
        clear O
        intro b7 u g1 O
        simp only [Act.put, jq1, jq2, jq3, jq4, jq5, jq6]
        refine hK.out _ _ (RdA.grown hH g1) ?_
        replace hH := RdA.grown hH g1
        clear hK K
        clear g1
        refine wpAnyJ_ready (rs := [11]) (by kernel_rfl) (by simp) ?_
        refine AllJ.keep rfl (by rfl) (by rfl) (fun K hK => ?_) (AllJ.nil)
        refine wp_call 10 _ _ (by rfl) (enters Tryd.func10 (by kernel_rfl) rfl) (by rfl) (CS.out _ (GD.out.trans (O.tch.grown (fun _ h => h.elim)))) ?_
        rintro e u ⟨rfl, hc1, ht1⟩
        refine ⟨_, rfl, ?_⟩
        have HL7 := Lib.hid ((O.lie 0 rfl).resolve_right id)
        replace O := O.widen ht1 (fun b hb => hb.elim (fun e => e ▸ PL.out.1) (fun e => e ▸ PL.out.2))
        have HC := Lib.hid hc1
        have HT := Lib.hid O.tch
        have O2 := (OwF.start (fun b => b = b7) u).add (O.at_ 0 rfl) rfl (by simp)
        clear O
        have O := O2
        clear O2
        simp only [Act.put, jq1, jq2, jq3, jq4, jq5, jq6]
        refine hK.out _ _ (RdA.tch hH ht1 (by intro e he; have := HPB.out; have := HGB.out; simp only [List.mem_cons, List.not_mem_nil, or_false] at he; rcases he with rfl | rfl <;> rintro (h | h) <;> simp only at h <;> omega)) ?_
        replace hH := RdA.tch hH ht1 (by intro e he; have := HPB.out; have := HGB.out; simp only [List.mem_cons, List.not_mem_nil, or_false] at he; rcases he with rfl | rfl <;> rintro (h | h) <;> simp only at h <;> omega)
        clear hK K hc1 ht1
        refine jp 12 ((.tuple #[.agg v.cells.toArray, .int .i64 0])) (Still.all hH) ?_
        simp only [Act.put, jq1, jq2, jq3, jq4, jq5, jq6]
        refine jp 13 ((.agg v.cells.toArray)) (Still.all hH) ?_
        simp only [Act.put, jq1, jq2, jq3, jq4, jq5, jq6]
        refine jp 14 ((.int .i64 0)) (Still.all hH) ?_
        simp only [Act.put, jq1, jq2, jq3, jq4, jq5, jq6]
        refine wpAnyJ_ready (rs := [16]) (by kernel_rfl) (by simp) ?_
        refine AllJ.turn rfl (by rfl) (by rfl) (fun K hK => ?_) (AllJ.nil)
        refine wp_of_store 23 _ _ rfl O 0 b7 rfl v.cells ZPk _ rfl rfl rfl (PacketD_one _) (PacketD.size v HV.out) ?_
        clear O
        intro u O
        simp only [List.set_cons_zero] at O
        simp only [Act.put, jq1, jq2, jq3, jq4, jq5, jq6]
        refine hK.out _ _ (waits_all (by kernel_rfl)) ?_
        clear hK K hH
        refine jp 17 ((.int .i64 0)) (Still.none (by kernel_rfl)) ?_
        simp only [Act.put, jq1, jq2, jq3, jq4, jq5, jq6]
        refine wpAnyJ_done (by kernel_rfl) ?_ _
        have HT2 := Lib.hid (HT.out.trans O.tch (fun b hb hl => by have := HL7.out; first | exact hb.elim | (cases hb; omega)))
        have HC2 := Lib.hid (HC.out.tch O.tch (by have := PL.out; have := HL7.out; intro hb; first | exact hb | (cases hb; omega)) (by have := PL.out; have := HL7.out; intro hb; first | exact hb | (cases hb; omega)))
        have O2 := (OwF.start (fun b => b = b7) _).add (O.at_ 0 rfl) rfl (by simp)
        clear O HT HC
        have O := O2
        clear O2
        have HES2 := Lib.hid (ents_new HES.out ⟨(hexL X).toArray⟩)
        obtain ⟨e1, he1⟩ : ∃ e : EntD, (⟨keyS kCommit (m + 1), ⟨(hexL X).toArray⟩⟩ : EntD) = e := ⟨_, rfl⟩
        have HE1 := Lib.hid (show e1.key = keyS kCommit q ∧ e1.value = ⟨(hexL X).toArray⟩ by rw [← he1, ← HMM.out.2]; exact ⟨rfl, rfl⟩)
        have hc2 := HC2.out
        rw [← HMM.out.2] at hc2
        obtain ⟨es2, hes2⟩ : ∃ l, e1 :: es = l := ⟨_, rfl⟩
        have HMEM := Lib.hid (show e1 ∈ es2 by rw [← hes2]; exact List.mem_cons_self)
        have hD : (entsD es).put (.string (keyS kCommit q).data.toList) (.held (itemV ⟨(hexL X).toArray⟩)) = entsD es2 := by rw [← hes2, ← he1, HMM.out.2]; rfl
        rw [hD] at hc2
        replace HES2 := Lib.hid (show es2.map (·.key) = (keysC q).reverse by have := HES2.out; rw [← hes2, HMM.out.2, ← he1]; exact this)
        replace HC2 := Lib.hid hc2
        clear hc2 hD he1 hes2 HES H
        obtain ⟨hn1, hk1, hr1, hl1⟩ := ents_facts (m := q) (by have := HMM.out; have := HMK.out; omega) HES2.out
        replace HF := Lib.hid (show (es2.map (·.key)).Nodup ∧ (∀ e ∈ es2, e.key.size ≤ maxLen) ∧ (∀ i, has (entsD es2) (keyL (keyS kReceipt i)) = false) ∧ es2.length = q from ⟨hn1, hk1, hr1, hl1⟩)
        clear hn1 hk1 hr1 hl1
        have ewq := EWQ.out
        go_wp2_with fail
        rw [EQ1.out]
        have CE := Lib.hid (entries_ok HF.out.1 HF.out.2.1 (by have := HMM.out; have := HMK.out; omega) HC2.out)
        go_wp2_with fail
        refine CE.out.mono ?_
        rintro e w ⟨vv, ys, rfl, hperm, hrow, gg⟩
        replace O := O.call gg
        have HL := Lib.hid (show ys.length = q from hperm.length_eq.trans HF.out.2.2.2)
        have HPM := Lib.hid hperm
        have HRW := Lib.hid hrow
        clear hperm hrow gg CE
        obtain ⟨a1, c1, hs, _⟩ := HRW.out.shape
        subst hs
        have CNX := Lib.hid (fun u (t : Tch (fun b => b = b7) _ u) => chNext_ok (HC2.out.tch t (by have := PL.out; have := HL7.out; intro hb; cases hb; omega) (by have := PL.out; have := HL7.out; intro hb; cases hb; omega)))
        have HLL := HL.out
        rw [HLL]
        have ewm := IntWalk.i64_in ((q : Int) + 1) (by have := HMM.out; have := HMK.out; omega)
        have ha1 := a_one
        go_upto_region 13 with fail
        replace O := O.drew
        have vcs := HVC.out
        rw [vcs] at O
        have HS4 := (HT2.out.trans O.tch (fun b hb hl => by have := HL7.out; cases hb; omega)).row (F4.out.grown (G.out.trans GD.out) (by simp)) (by have := HPB.out; have := HGB.out; rintro (h | h) <;> omega)
        have HS5 := (HT2.out.trans O.tch (fun b hb hl => by have := HL7.out; cases hb; omega)).row (F5.out.grown (G.out.trans GD.out) (by simp)) (by have := HPB.out; have := HGB.out; rintro (h | h) <;> omega)
        clear vcs
        refine wp_region_J (rdf [(16, b7, 0, [(.int .i64 (q : Int))]), (21, b7, 1, [(.string aS)]), (26, b7, 2, [(.string DT)]), (31, g, (o + k * 11 + 4), [(.string DT)]), (36, b7, 3, [(.int .i64 TM)]), (41, g, (o + k * 11 + 5), [(.int .i64 TM)])]) [1] (by kernel_rfl) (RdA.cons (O.cellr (n := 0) rfl rfl) (RdA.cons (O.cellr (n := 0) rfl rfl) (RdA.cons (O.cellr (n := 0) rfl rfl) (RdA.cons HS4 (RdA.cons (O.cellr (n := 0) rfl rfl) (RdA.cons HS5 RdA.nil)))))) (fun hH => ?_)
        refine jp 0 ((.pointer (some ⟨p, 0, none⟩))) (Still.all hH) ?_
        simp only [Act.put, jq1, jq2, jq3, jq4, jq5, jq6]
        refine jp 2 ((.int .i64 (q : Int))) (Still.all hH) ?_
        simp only [Act.put, jq1, jq2, jq3, jq4, jq5, jq6]
        refine jp 3 ((.int .i64 ((q : Int) + 1))) (Still.all hH) ?_
        simp only [Act.put, jq1, jq2, jq3, jq4, jq5, jq6]
        refine wpAnyJ_ready (rs := [1]) (by kernel_rfl) (by simp) ?_
        refine AllJ.keep rfl (by rfl) (by rfl) (fun K hK => ?_) (AllJ.nil)
        refine wp_call 12 _ _ (by rfl) (enters Tryd.func12 (by kernel_rfl) rfl) (by rfl) (CNX.out _ O.tch) ?_
        rintro e u ⟨rfl, g1⟩
        refine ⟨_, rfl, ?_⟩
        replace O := O.call g1
        replace HRW := Lib.hid ((HRW.out.grown (dr1 _)).grown g1)
        simp only [Act.put, jq1, jq2, jq3, jq4, jq5, jq6]
        refine hK.out _ _ (RdA.grown hH g1) ?_
        replace hH := RdA.grown hH g1
        clear hK K
        clear g1
        refine jp 4 ((.bool false)) (Still.all hH) ?_
        simp only [Act.put, jq1, jq2, jq3, jq4, jq5, jq6]
        refine jp 5 ((.bool false)) (Still.all hH) ?_
        simp only [Act.put, jq1, jq2, jq3, jq4, jq5, jq6]
        refine jp 6 ((.slice a1 q c1)) (Still.all hH) ?_
        simp only [Act.put, jq1, jq2, jq3, jq4, jq5, jq6]
        refine jp 7 ((.int .i64 (q : Int))) (Still.all hH) ?_
        simp only [Act.put, jq1, jq2, jq3, jq4, jq5, jq6]
        refine jp 8 ((.int .i64 (q : Int))) (Still.all hH) ?_
        simp only [Act.put, jq1, jq2, jq3, jq4, jq5, jq6]
        refine jp 9 ((.bool false)) (Still.all hH) ?_
        simp only [Act.put, jq1, jq2, jq3, jq4, jq5, jq6]
        refine jp 10 ((.bool false)) (Still.all hH) ?_
        simp only [Act.put, jq1, jq2, jq3, jq4, jq5, jq6]
        refine jp 11 ((.bool false)) (Still.all hH) ?_
        simp only [Act.put, jq1, jq2, jq3, jq4, jq5, jq6]
        refine jp 12 ((.int .i64 0)) (Still.all hH) ?_
        simp only [Act.put, jq1, jq2, jq3, jq4, jq5, jq6]
        refine jp 13 ((.bool true)) (Still.all hH) ?_
        simp only [Act.put, jq1, jq2, jq3, jq4, jq5, jq6]
        refine jp 14 ((.bool true)) (Still.all hH) ?_
        simp only [Act.put, jq1, jq2, jq3, jq4, jq5, jq6]
        refine jp 15 ((.pointer (some ⟨b7, 0, none⟩))) (Still.all hH) ?_
        simp only [Act.put, jq1, jq2, jq3, jq4, jq5, jq6]
        refine jr 0 16 ((.int .i64 (q : Int))) rfl rfl (yields_cell (by rfl) 3 _ rfl b7 0 rfl (.int .i64 (q : Int)) _ (fun W h => h) Tryd.underlying3 rfl) (Still.all hH) ?_
        simp only [Act.put, jq1, jq2, jq3, jq4, jq5, jq6]
        refine jp 17 ((.int .i64 (q : Int))) (Still.all hH) ?_
        simp only [Act.put, jq1, jq2, jq3, jq4, jq5, jq6]
        refine jp 18 ((.bool false)) (Still.all hH) ?_
        simp only [Act.put, jq1, jq2, jq3, jq4, jq5, jq6]
        refine jp 19 ((.bool false)) (Still.all hH) ?_
        simp only [Act.put, jq1, jq2, jq3, jq4, jq5, jq6]
        refine jp 20 ((.pointer (some ⟨b7, 1, none⟩))) (Still.all hH) ?_
        simp only [Act.put, jq1, jq2, jq3, jq4, jq5, jq6]
        refine jr 1 21 ((.string aS)) rfl rfl (yields_cell (by rfl) 9 _ rfl b7 1 rfl (.string aS) _ (fun W h => h) Tryd.underlying9 rfl) (Still.all hH) ?_
        simp only [Act.put, jq1, jq2, jq3, jq4, jq5, jq6]
        refine jp 22 ((.bool false)) (Still.all hH) ?_
        simp only [Act.put, jq1, jq2, jq3, jq4, jq5, jq6]
        refine jp 23 ((.bool false)) (Still.all hH) ?_
        simp only [Act.put, jq1, jq2, jq3, jq4, jq5, jq6]
        refine jp 24 ((.bool false)) (Still.all hH) ?_
        simp only [Act.put, jq1, jq2, jq3, jq4, jq5, jq6]
        refine jp 25 ((.pointer (some ⟨b7, 2, none⟩))) (Still.all hH) ?_
        simp only [Act.put, jq1, jq2, jq3, jq4, jq5, jq6]
        refine jr 2 26 ((.string DT)) rfl rfl (yields_cell (by rfl) 9 _ rfl b7 2 rfl (.string DT) _ (fun W h => h) Tryd.underlying9 rfl) (Still.all hH) ?_
        simp only [Act.put, jq1, jq2, jq3, jq4, jq5, jq6]
        refine jp 27 ((.slice (some ⟨g, o, none⟩) M dp)) (Still.all hH) ?_
        simp only [Act.put, jq1, jq2, jq3, jq4, jq5, jq6]
        refine jp 28 ((.int .i64 (k : Int))) (Still.all hH) ?_
        simp only [Act.put, jq1, jq2, jq3, jq4, jq5, jq6]
        refine jp 29 ((.pointer (some ⟨g, o + k * 11, none⟩))) (Still.all hH) ?_
        simp only [Act.put, jq1, jq2, jq3, jq4, jq5, jq6]
        refine jp 30 ((.pointer (some ⟨g, o + k * 11 + 4, none⟩))) (Still.all hH) ?_
        simp only [Act.put, jq1, jq2, jq3, jq4, jq5, jq6]
        refine jr 3 31 ((.string DT)) rfl rfl (yields_cell (by rfl) 9 _ rfl g (o + k * 11 + 4) rfl (.string DT) _ (fun W h => h) Tryd.underlying9 rfl) (Still.all hH) ?_
        simp only [Act.put, jq1, jq2, jq3, jq4, jq5, jq6]
        refine jp 32 ((.bool false)) (Still.all hH) ?_
        simp only [Act.put, jq1, jq2, jq3, jq4, jq5, jq6]
        refine jp 33 ((.bool false)) (Still.all hH) ?_
        simp only [Act.put, jq1, jq2, jq3, jq4, jq5, jq6]
        refine jp 34 ((.bool false)) (Still.all hH) ?_
        simp only [Act.put, jq1, jq2, jq3, jq4, jq5, jq6]
        refine jp 35 ((.pointer (some ⟨b7, 3, none⟩))) (Still.all hH) ?_
        simp only [Act.put, jq1, jq2, jq3, jq4, jq5, jq6]
        refine jr 4 36 ((.int .i64 TM)) rfl rfl (yields_cell (by rfl) 3 _ rfl b7 3 rfl (.int .i64 TM) _ (fun W h => h) Tryd.underlying3 rfl) (Still.all hH) ?_
        simp only [Act.put, jq1, jq2, jq3, jq4, jq5, jq6]
        refine jp 37 ((.slice (some ⟨g, o, none⟩) M dp)) (Still.all hH) ?_
        simp only [Act.put, jq1, jq2, jq3, jq4, jq5, jq6]
        refine jp 38 ((.int .i64 (k : Int))) (Still.all hH) ?_
        simp only [Act.put, jq1, jq2, jq3, jq4, jq5, jq6]
        refine jp 39 ((.pointer (some ⟨g, o + k * 11, none⟩))) (Still.all hH) ?_
        simp only [Act.put, jq1, jq2, jq3, jq4, jq5, jq6]
        refine jp 40 ((.pointer (some ⟨g, o + k * 11 + 5, none⟩))) (Still.all hH) ?_
        simp only [Act.put, jq1, jq2, jq3, jq4, jq5, jq6]
        refine jr 5 41 ((.int .i64 TM)) rfl rfl (yields_cell (by rfl) 3 _ rfl g (o + k * 11 + 5) rfl (.int .i64 TM) _ (fun W h => h) Tryd.underlying3 rfl) (Still.all hH) ?_
        simp only [Act.put, jq1, jq2, jq3, jq4, jq5, jq6]
        refine jp 42 ((.bool false)) (Still.all hH) ?_
        simp only [Act.put, jq1, jq2, jq3, jq4, jq5, jq6]
        refine jp 43 ((.bool false)) (Still.all hH) ?_
        simp only [Act.put, jq1, jq2, jq3, jq4, jq5, jq6]
        refine jp 44 ((.bool false)) (Still.all hH) ?_
        simp only [Act.put, jq1, jq2, jq3, jq4, jq5, jq6]
        refine jp 45 ((.bool false)) (Still.all hH) ?_
        simp only [Act.put, jq1, jq2, jq3, jq4, jq5, jq6]
        refine wpAnyJ_done (by kernel_rfl) ?_ _
        clear hH
        have HB := Lib.hid (show RowAt _ b7 0 v.cells by rw [HVC.out]; exact (O.at_ 0 rfl).row)
        have hb7 : ∀ b, b = b7 → b < wr.drew.heap.size → (b = p ∨ b = bm) := fun b hb hl => by have := HL7.out; cases hb; omega
        have T2 := HT2.out.trans O.tch hb7
        have HCU := Lib.hid (HC2.out.tch O.tch (by have := PL.out; have := HL7.out; intro hb; cases hb; omega) (by have := PL.out; have := HL7.out; intro hb; cases hb; omega))
        have HRU := Lib.hid (T2.row (HR.out.grown (G.out.trans GD.out) (by simp)) (by have := HPB.out; have := HRL.out; rintro (h | h) <;> omega))
        have HGU := Lib.hid (((Tch.of_grown (F := fun b => b = p ∨ b = bm) (G.out.trans GD.out)).trans T2 (fun _ h _ => h)).grown (by have := HPB.out; rintro b (rfl | rfl); exact this.1; exact this.2))
        clear T2 hb7 O HT2 HC2
        have O := OwF.start (fun _ => False) u
        have HNQ := Lib.hid (show 1 ≤ q ∧ q < 100 by have := HMM.out; have := HMK.out; omega)
        obtain ⟨S, hS⟩ : ∃ z : ByteArray, ⟨(hexL X).toArray⟩ = z := ⟨_, rfl⟩
        have FD : ∀ w, u.grownBy w none → Calls Tryd.prog 13 #[.slice a1 q c1, .string (keyS kCommit q)] w fun e w' => e = .returned (.tuple #[.string S, .bool true]) ∧ w' = w := fun w g => by
          have h := find_ok (HRW.out.grown g) ((HPM.out.map _).nodup_iff.2 HF.out.1) e1 (HPM.out.mem_iff.2 HMEM.out)
          rw [HL.out, HE1.out.1, HE1.out.2, hS] at h
          exact h
        have CTX := Lib.hid (fun w => rText_ok X LX.out w)
        rw [hS] at CTX
        have FDH := Lib.hid FD
        have RK := Lib.hid (fun w => rkey_ok kCommit (by decide) q HNQ.out.1 HNQ.out.2 w)
        have AN := Lib.hid (fun w (g : u.grownBy w none) => answer_no (HCU.out.grown g) q HNQ.out.2 okS (HF.out.2.2.1 q))
        clear FD hS
        go_wp2_with (first | ((with_reducible refine @wpList_at _ _ _ _ _ _ _ (.load 23 (.tmp 7)) rfl ?_); refine wpList_load_part rfl 23 _ rfl b7 (0) rfl v.cells _ (HB.out.grown (O.tch.grown (fun _ h => h.elim)) (by simp)) Tryd.underlying23 rfl (PacketD.size v HV.out) ?_))
        refine (CH.out _ HRU.out).mono ?_
        rintro e w ⟨rfl, g⟩
        replace O := O.call g
        clear g
        go_wp2_with (first | ((with_reducible refine @wpList_at _ _ _ _ _ _ _ (.alloc 33) rfl ?_); refine @wpList_of_alloc _ _ _ _ _ _ _ _ _ _ 33 rfl ZH ZH_info O rfl ?_; clear O; intro b10 w O) | ((with_reducible refine @wpList_at _ _ _ _ _ _ _ (.store 33 (.tmp 10) (.tmp 117)) rfl ?_); refine @wpList_of_store _ _ _ _ _ _ _ _ _ _ 33 (.tmp 10) (.tmp 117) rfl O 0 b10 rfl (Lib.byteCells X) ZH _ rfl rfl (by rw [Lib.byteCells_length, LX.out]; rfl) (oneCell_bytes _) (sizeH _ (by rw [Lib.byteCells_length, LX.out])) rfl ?_; clear O; intro w O; simp only [List.set_cons_zero] at O))
        refine (RK.out _).mono ?_
        rintro e w ⟨rfl, rfl⟩
        go_wp2_with fail
        refine (FDH.out _ (O.tch.grown (fun _ h => h.elim))).mono ?_
        rintro e w ⟨rfl, rfl⟩
        go_wp2_with (first | ((with_reducible refine @wpList_at _ _ _ _ _ _ _ (.load 33 (.tmp 10)) rfl ?_); refine @wpList_of_whole _ _ _ _ _ _ _ _ _ _ 33 (.tmp 10) rfl O 0 b10 rfl (Lib.byteCells X) _ rfl _ Tryd.underlying33 rfl (sizeH _ (by rw [Lib.byteCells_length, LX.out])) rfl ?_))
        refine (CTX.out _).mono ?_
        rintro e w ⟨rfl, g⟩
        replace O := O.call g
        clear g
        go_wp2_with fail
        refine (AN.out _ (O.tch.grown (fun _ h => h.elim))).mono ?_
        rintro e w ⟨rfl, g⟩
        replace O := O.call g
        clear g
        go_wp2_with fail
        exact ⟨⟨k + 1, q, es2, by have := HMK.out; omega, by have := HMK.out; omega, by have := HMK.out; have := HMM.out; omega, by go_num, by first | rfl | trivial, HGU.out.trans (O.tch.grown (fun _ h => h.elim)), HCU.out.grown (O.tch.grown (fun _ h => h.elim)), HES2.out⟩, by simp [intOf]; omega⟩

end Go.Proofs.YtlahdaanfhedoaaDoor
