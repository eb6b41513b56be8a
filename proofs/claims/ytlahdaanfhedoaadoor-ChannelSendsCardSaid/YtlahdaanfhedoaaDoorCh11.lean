/- Walks: a channel: Send refused; Entries, whatever it has. -/
import Derived.Test.YtlahdaanfhedoaaDoorCh10
import Derived.Maps.RangeWalk
namespace Go.Proofs.YtlahdaanfhedoaaDoor
open Go.RowKit Go.Maps
set_option maxRecDepth 100000

theorem bPk00 : Tryd.prog.built 23 [] = some ZPk.toArray := by kernel_rfl
theorem ZPk_one0 : ∀ x ∈ ZPk, x.oneCell' = true := by simp [ZPk, Value.oneCell']
theorem sizePk0 : (Tryd.prog.info? 23).map (·.size) = some ZPk.length := by kernel_rfl
set_option maxHeartbeats 4000000 in
theorem sendNo_ok {w0 : World} {p bm : Nat} {x y : ByteArray} {m n : Nat} {D : DataW Value} (h : ChRep w0 p bm x y (m : Int) n D) (data : ByteArray) (tm : Int) (hv : (⟨(m : Int), x, data, tm⟩ : PacketD).wf) (hok : okPacket ⟨(m : Int), x, data, tm⟩ = false) (hR : RowAt w0 0 0 (wCells rootsL)) :
    Calls Tryd.prog 10 #[.pointer (some ⟨p, 0, none⟩), .string data, .int .i64 tm] w0 fun e w' => e = .returned (.tuple #[.agg ZPk.toArray, .int .i64 61]) ∧ w0.grownBy w' none := by
  have O := OwF.start (fun _ => False) w0
  have BK := Lib.hid h.blk
  obtain ⟨v, hvd⟩ : ∃ v : PacketD, (⟨(m : Int), x, data, tm⟩ : PacketD) = v := ⟨_, rfl⟩
  have hb := bPkt v
  rw [← hvd] at hb
  dsimp only at hb
  rw [hvd] at hv hok hb
  have HV := Lib.hid hv; have BP := Lib.hid hb
  have CH := Lib.hid (fun w hR => cHash_ok v hv w hR)
  have HE := Lib.hid (show errP v = 61 by unfold errP; rw [hok]; rfl)
  have HR := Lib.hid hR
  have LX := Lib.hid (hashP_len v)
  obtain ⟨X, hX⟩ : ∃ z, hashP v = z := ⟨_, rfl⟩
  rw [hX] at CH LX
  rw [HE.out] at CH
  clear h hv hb hok hR hX hvd
  go_enter Tryd.func10, Tryd.ntmps10
  go_upto_region 3 with (first | ((with_reducible refine @wpList_at _ _ _ _ _ _ _ (.alloc 23) rfl ?_); refine @wpList_of_alloc _ _ _ _ _ _ _ _ _ _ 23 rfl ZPk ZPk_info O rfl ?_; clear O; intro b6 w O))
  replace O := O.drew
  refine wp_region_J (rdf [(3, p, 2, [(.int .i64 (m : Int))]), (7, p, 0, [(.string x)])]) [11, 12] (by kernel_rfl) (RdA.cons (RowAt.one ((BK.out.grown (O.tch.grown (fun _ h => h.elim)) (by simp)).row 2 _ rfl)) (RdA.cons (RowAt.one ((BK.out.grown (O.tch.grown (fun _ h => h.elim)) (by simp)).row 0 _ rfl)) RdA.nil)) (fun hH => ?_)
  refine jp 0 ((.pointer (some ⟨p, 0, none⟩))) (Still.all hH) ?_
  simp only [Act.put, jq1, jq2, jq3, jq4, jq5, jq6]
  refine jp 1 ((.pointer (some ⟨p, 0, none⟩))) (Still.all hH) ?_
  simp only [Act.put, jq1, jq2, jq3, jq4, jq5, jq6]
  refine jp 2 ((.pointer (some ⟨p, 2, none⟩))) (Still.all hH) ?_
  simp only [Act.put, jq1, jq2, jq3, jq4, jq5, jq6]
  refine jr 0 3 ((.int .i64 (m : Int))) rfl rfl (yields_cell (by rfl) 3 _ rfl p 2 rfl (.int .i64 (m : Int)) _ (fun W h => h) Tryd.underlying3 rfl) (Still.all hH) ?_
  simp only [Act.put, jq1, jq2, jq3, jq4, jq5, jq6]
  refine jp 4 ((.pointer (some ⟨p, 0, none⟩))) (Still.all hH) ?_
  simp only [Act.put, jq1, jq2, jq3, jq4, jq5, jq6]
  refine jp 5 ((.pointer (some ⟨p, 0, none⟩))) (Still.all hH) ?_
  simp only [Act.put, jq1, jq2, jq3, jq4, jq5, jq6]
  refine jp 6 ((.pointer (some ⟨p, 0, none⟩))) (Still.all hH) ?_
  simp only [Act.put, jq1, jq2, jq3, jq4, jq5, jq6]
  refine jr 1 7 ((.string x)) rfl rfl (yields_cell (by rfl) 9 _ rfl p 0 rfl (.string x) _ (fun W h => h) Tryd.underlying9 rfl) (Still.all hH) ?_
  simp only [Act.put, jq1, jq2, jq3, jq4, jq5, jq6]
  refine jp 8 ((.string data)) (Still.all hH) ?_
  simp only [Act.put, jq1, jq2, jq3, jq4, jq5, jq6]
  refine jp 9 ((.int .i64 tm)) (Still.all hH) ?_
  simp only [Act.put, jq1, jq2, jq3, jq4, jq5, jq6]
  refine jp 10 ((.agg v.cells.toArray)) (Still.all hH) ?_ (hy := (Or.inl ⟨by rfl, fun W _ => run_build_opC 23 _ rfl [(0, .int .i64 (m : Int)), (1, .string x), (2, .string data), (3, .int .i64 tm)] (by kernel_rfl) v.cells BP.out⟩))
  simp only [Act.put, jq1, jq2, jq3, jq4, jq5, jq6]
  refine wpAnyJ_ready (rs := [11]) (by kernel_rfl) (by simp) ?_
  refine AllJ.keep rfl (by rfl) (by rfl) (fun K hK => ?_) (AllJ.nil)
  refine wp_of_alloc 23 rfl ZPk ZPk_info O ?_
  clear O
  intro b8 u g1 O
  simp only [Act.put, jq1, jq2, jq3, jq4, jq5, jq6]
  refine hK.out _ _ (RdA.grown hH g1) ?_
  replace hH := RdA.grown hH g1
  clear hK K
  clear g1
  refine wpAnyJ_ready (rs := [12]) (by kernel_rfl) (by simp) ?_
  refine AllJ.turn rfl (by rfl) (by rfl) (fun K hK => ?_) (AllJ.nil)
  refine wp_of_store 23 _ _ rfl O 0 b8 rfl v.cells ZPk _ rfl rfl rfl (PacketD_one _) (PacketD.size v HV.out) ?_
  clear O
  intro u O
  simp only [List.set_cons_zero] at O
  simp only [Act.put, jq1, jq2, jq3, jq4, jq5, jq6]
  refine hK.out _ _ (waits_all (by kernel_rfl)) ?_
  clear hK K hH
  refine wpAnyJ_done (by kernel_rfl) ?_ _
  go_wp2_with (first | ((with_reducible refine @wpList_at _ _ _ _ _ _ _ (.load 23 (.tmp 8)) rfl ?_); refine @wpList_of_whole _ _ _ _ _ _ _ _ _ _ 23 (.tmp 8) rfl O 0 b8 rfl v.cells _ rfl _ Tryd.underlying23 rfl (PacketD.size v HV.out) rfl ?_))
  refine (CH.out _ (HR.out.grown (O.tch.grown (fun _ h => h.elim)) (by simp))).mono ?_
  rintro e w ⟨rfl, g⟩
  replace O := O.call g
  clear g
  go_wp2_with (first | ((with_reducible refine @wpList_at _ _ _ _ _ _ _ (.alloc 33) rfl ?_); refine @wpList_of_alloc _ _ _ _ _ _ _ _ _ _ 33 rfl ZH ZH_info O rfl ?_; clear O; intro b9 w O) | ((with_reducible refine @wpList_at _ _ _ _ _ _ _ (.store 33 (.tmp 9) (.tmp 28)) rfl ?_); refine @wpList_of_store _ _ _ _ _ _ _ _ _ _ 33 (.tmp 9) (.tmp 28) rfl O 0 b9 rfl (Lib.byteCells X) ZH _ rfl rfl (by rw [Lib.byteCells_length, LX.out]; rfl) (oneCell_bytes _) (sizeH _ (by rw [Lib.byteCells_length, LX.out])) rfl ?_; clear O; intro w O; simp only [List.set_cons_zero] at O) | (refine wpList_build_eq rfl 23 _ rfl [] (by kernel_rfl) ZPk bPk00 ?_) | ((with_reducible refine @wpList_at _ _ _ _ _ _ _ (.store 23 (.tmp 6) (.tmp 32)) rfl ?_); refine @wpList_of_store _ _ _ _ _ _ _ _ _ _ 23 (.tmp 6) (.tmp 32) rfl O 2 b6 rfl ZPk ZPk _ rfl rfl rfl ZPk_one0 sizePk0 rfl ?_; clear O; intro w O; simp only [List.set_cons_zero, List.set_cons_succ] at O))
  refine bodyPost_ret (results_cell_tmp rfl _ _ ⟨b6, 0, none⟩ _ _ rfl rfl (run_loadVar_part _ _ _ 23 ZPk _ (O.row_of (g := b6) (T := 23) (by simp)) Tryd.underlying23 rfl sizePk0)) rfl ?_
  exact ⟨rfl, O.tch.grown (fun _ h => h.elim)⟩
/-! entries, as a map holds them -/
def keyL (s : ByteArray) : Lit := .string s.data.toList
def entsD : List EntD → DataW Value
  | [] => .map []
  | e :: r => (entsD r).put (keyL e.key) (.held (itemV e.value))
theorem keyL_lit (s : ByteArray) : WideAt.IsKeyLit (keyL s) := trivial
theorem keyL_inj {a b : ByteArray} (h : keyL a = keyL b) : a = b := by
  unfold keyL at h
  injection h with h
  cases a with
  | mk x => cases b with
    | mk y => exact congrArg ByteArray.mk (Array.ext' h)
theorem entsD_map : ∀ r : List EntD, IsMap (entsD r)
  | [] => ⟨[], rfl⟩
  | _ :: r => (entsD_map r).put _ _
theorem entsD_has : ∀ (r : List EntD) (kl : Lit), has (entsD r) kl = true → ∃ e ∈ r, kl = keyL e.key
  | [], _, h => by cases h
  | e :: r, kl, h => by
    by_cases q : kl = keyL e.key
    · exact ⟨e, by simp, q⟩
    · unfold entsD at h
      rw [has_put_other q] at h
      obtain ⟨u, hu, e2⟩ := entsD_has r kl h
      exact ⟨u, by simp [hu], e2⟩
theorem entsD_at : ∀ (r : List EntD), (r.map (·.key)).Nodup → ∀ e ∈ r, has (entsD r) (keyL e.key) = true ∧ ∀ z, (entsD r).atKey (keyL e.key) z = .held (itemV e.value)
  | [], _, e, he => by cases he
  | u :: r, hn, e, he => by
    rw [List.map_cons, List.nodup_cons] at hn
    unfold entsD
    rcases List.mem_cons.1 he with rfl | he
    · exact ⟨has_put_same (entsD_map r) (keyL_lit _) _, fun z => atKey_put_same (entsD_map r) (keyL_lit _) _ _⟩
    · have hne : keyL e.key ≠ keyL u.key := fun q => hn.1 (List.mem_map.2 ⟨e, he, keyL_inj q⟩)
      obtain ⟨k1, k2⟩ := entsD_at r hn.2 e he
      exact ⟨by rw [has_put_other hne]; exact k1, fun z => by rw [atKey_put_other hne]; exact k2 z⟩
theorem ent_key_inj {l : List EntD} (h : (l.map (·.key)).Nodup) : ∀ u ∈ l, ∀ v ∈ l, u.key = v.key → u = v := by
  induction l with
  | nil => intro u hu; cases hu
  | cons x l ih =>
    rw [List.map_cons, List.nodup_cons] at h
    intro u hu v hv e
    have no : ∀ y ∈ l, y.key ≠ x.key := fun y hy e => h.1 (List.mem_map.2 ⟨y, hy, e⟩)
    rcases List.mem_cons.1 hu with eu | hu'
    · rcases List.mem_cons.1 hv with ev | hv'
      · rw [eu, ev]
      · exact absurd (by rw [← e, eu]) (no v hv')
    · rcases List.mem_cons.1 hv with ev | hv'
      · exact absurd (by rw [e, ev]) (no u hu')
      · exact ih h.2 u hu' v hv' e
/-- the entries that have come -/
def CameE (cnt xs : List EntD) (left : Lit → Bool) : Prop := (∀ u ∈ xs, u ∈ cnt) ∧ (xs.map (·.key)).Nodup ∧ ∀ u ∈ cnt, (left (keyL u.key) = false ↔ u ∈ xs)
theorem CameE.step {cnt xs : List EntD} {left : Lit → Bool} (h : CameE cnt xs left) (hn : (cnt.map (·.key)).Nodup) {o : EntD} (ho : o ∈ cnt) (hl : left (keyL o.key) = true) : CameE cnt (xs ++ [o]) (fun z => left z && !z.sameKey (keyL o.key)) := by
  obtain ⟨h1, h2, h3⟩ := h
  have hno : o ∉ xs := fun hx => by have := (h3 o ho).2 hx; rw [hl] at this; cases this
  refine ⟨fun u hu => ?_, ?_, fun u hu => ?_⟩
  · rcases List.mem_append.1 hu with hu | hu
    · exact h1 u hu
    · simp at hu; subst hu; exact ho
  · rw [List.map_append, List.nodup_append]
    refine ⟨h2, by simp, fun a ha b hb e => ?_⟩
    simp at hb
    subst hb e
    obtain ⟨u, hu, e⟩ := List.mem_map.1 ha
    have := ent_key_inj hn u (h1 u hu) o ho e
    subst this
    exact hno hu
  · by_cases e : u = o
    · subst e
      have : (keyL u.key).sameKey (keyL u.key) = true := by simp [Lit.sameKey, keyL]
      simp [this]
    · have hne : (keyL u.key).sameKey (keyL o.key) = false := Maps.sameKey_ne fun h => e (ent_key_inj hn u hu o ho (keyL_inj h))
      simp only [hne, Bool.not_false, Bool.and_true]
      rw [h3 u hu]
      simp [e]
theorem nodup_of_map {l : List EntD} (h : (l.map (·.key)).Nodup) : l.Nodup := by
  induction l with
  | nil => exact List.nodup_nil
  | cons x l ih =>
    rw [List.map_cons, List.nodup_cons] at h
    exact List.nodup_cons.2 ⟨fun hx => h.1 (List.mem_map.2 ⟨x, hx, rfl⟩), ih h.2⟩
open Classical in
theorem CameE.all {cnt xs : List EntD} {left : Lit → Bool} (h : CameE cnt xs left) (hn : (cnt.map (·.key)).Nodup) (hl : ∀ z, left z = false) : xs.Perm cnt :=
  (List.perm_ext_iff_of_nodup (nodup_of_map h.2.1) (nodup_of_map hn)).2 fun u => ⟨h.1 u, fun hu => (h.2.2 u hu).1 (hl _)⟩
def EntsP (w0 : World) (cnt : List EntD) (e : Ending) (w' : World) : Prop := ∃ v ys, e = .returned v ∧ ys.Perm cnt ∧ SRow w' 57 2 v ys.length (esCells ys) ∧ w0.grownBy w' none
theorem ZIt2 : (Tryd.prog.info? 72).map (fun i => i.zero.map (fun v => v.cells)) = some (some [Value.string ⟨#[]⟩].toArray) := by kernel_rfl
theorem bEntN (k s : ByteArray) : Tryd.prog.built 57 [(0, .string k), (1, .string s)] = some #[.string k, .string s] := by kernel_rfl
theorem entN_i : (Tryd.prog.info? 57).map (fun i => (i.zero, i.size, i.bytes)) = some (some (.agg #[.string ⟨#[]⟩, .string ⟨#[]⟩]), 2, 32) := by kernel_rfl
theorem entN_i2 : (Tryd.prog.info? 57).map (fun i => (i.zero, i.size)) = some (some (.agg #[.string ⟨#[]⟩, .string ⟨#[]⟩]), 2) := by kernel_rfl
theorem grown_newE {w0 w w' : World} {r : Nat} (g : w0.grownBy w none) (h : w.grownBy w' (some r)) (hr : w0.heap.size ≤ r) : w0.grownBy w' none := World.grownBy.andThen g h (fun j hj => by cases hj; exact Or.inl hr)
theorem esCells_snoc (l : List EntD) (e : EntD) : esCells (l ++ [e]) = esCells l ++ e.cells := by unfold esCells; simp
theorem esCells_len (l : List EntD) : (esCells l).length = l.length * 2 := by
  unfold esCells
  induction l with
  | nil => rfl
  | cons e l ih => rw [List.flatMap_cons, List.length_append, ih, List.length_cons]; show 2 + _ = _; omega
def asW (l : List EntD) : List EntW := l.map fun e => ⟨e, trivial⟩
theorem asW_bare (l : List EntD) : bareE (asW l) = l := by unfold bareE asW; rw [List.map_map]; exact List.map_id' l
theorem asW_len (l : List EntD) : (asW l).length = l.length := by unfold asW; rw [List.length_map]
set_option maxHeartbeats 4000000 in
theorem entries_ok {w0 : World} {p bm n : Nat} {x y : ByteArray} {next : Int} {cnt : List EntD} (hn : (cnt.map (·.key)).Nodup) (hk : ∀ e ∈ cnt, e.key.size ≤ maxLen) (hn1 : n ≤ 1000) (h : ChRep w0 p bm x y next n (entsD cnt)) : Calls Tryd.prog 11 #[.pointer (some ⟨p, 0, none⟩)] w0 (EntsP w0 cnt) := by
  have c3 := h.blk.row 3 _ rfl
  rw [Nat.zero_add] at c3
  have HM := Lib.hid h.map; have HN := Lib.hid hn
  have HS := Lib.hid (Nat.le_trans h.map.size_le hn1)
  have CS := Lib.hid (fun v xs B w ho hl => sort_ents v xs B w ho hl)
  clear h hn hk hn1
  go_enter Tryd.func11, Tryd.ntmps11
  go_wp2_with (first | (at_range; refine wpList_range_own _ rfl _ 62 rfl 9 72 strmap_keyed Tryd.underlying62 _ bm n (entsD cnt) rfl HM.out ?_; intro w2 hrg2 hg2 hs2) | go_in)
  have RG := Lib.hid hrg2; have G2 := Lib.hid hg2
  clear hrg2 hg2 hs2 c3
  go_frame
  go_loopw [3] (fun v wr => ∃ left ct xs, wr.ranges Tryd.prog 9 heldS bm w0.heap.size n (entsD cnt) left ct ∧ xs.length + ct ≤ Maps.size (entsD cnt) ∧ CameE cnt xs left ∧ w0.grownBy wr none ∧ wr.ownsRow (w0.heap.size + 1) 57 2 v xs.length (esCells xs)) (fun _ wr => wr.rangeLeft bm w0.heap.size)
  case atStart => exact ⟨_, _, [], RG.out, by simp, ⟨by simp, by simp, fun u hu => by simp [(entsD_at cnt HN.out u hu).1]⟩, G2.out, World.ownsRow_nil _ _ _ _⟩
  case round =>
    obtain ⟨left, ct, xs, hrg, hct, hC, hg, hv⟩ := hrel
    have RG0 := Lib.hid hrg; have HG := Lib.hid hg; have HCT := Lib.hid hct; have HC := Lib.hid hC; have HV := Lib.hid hv
    clear hrg hg RG G2 hct hC hv
    go_wp2_with (at_next; refine wpList_next_ranges (α := ByteArray) (β := Value) _ rfl _ rfl 9 strmap_keyed heldS Value.string id (fun key kl hk => by obtain ⟨x, hx, _⟩ := Go.WideMaps.string_of_keyOf Tryd.underlying9 hk; exact ⟨x, hx⟩) (fun v _ _ => ⟨v, rfl⟩) bm w0.heap.size n _ _ _ rfl RG0.out ?_ ?_)
    · intro _ hall
      have HP := Lib.hid (HC.out.all HN.out hall)
      obtain ⟨a1, c1, hs, _⟩ := (SRow.of_owns HV.out).shape
      subst hs
      have ho : wr.ownsRow (w0.heap.size + 1) 57 2 (.slice a1 xs.length c1) (asW xs).length (esCells (bareE (asW xs))) := by rw [asW_len, asW_bare]; exact HV.out
      have CS2 := Lib.hid (CS.out _ (asW xs) _ wr ho (by rw [asW_len]; have := HCT.out; have := HS.out; omega))
      clear ho hall
      go_wp2_with fail
      refine CS2.out.mono ?_
      rintro e w ⟨rfl, ys, hperm, _, ho2, g2⟩
      have HPM := Lib.hid hperm; have HO2 := Lib.hid ho2; have HG2 := Lib.hid g2
      clear hperm ho2 g2 CS2
      go_wp2_with fail
      go_ret
      have hp2 : (bareE ys).Perm xs := by have := HPM.out.map (·.1); rwa [show (asW xs).map (·.1) = xs from asW_bare xs] at this
      have hl : (bareE ys).length = xs.length := hp2.length_eq
      refine ⟨_, bareE ys, rfl, hp2.trans HP.out, ?_, World.grownBy.andThen HG.out HG2.out (fun j hj => ?_)⟩
      · rw [hl]
        have := HO2.out
        rw [asW_len] at this
        exact SRow.of_owns this
      · rcases HV.out.2 with ⟨h1, _⟩ | ⟨g', cap, cur, h1, hB, _⟩
        · rw [h1] at hj; cases hj
        · rw [h1] at hj
          have hj2 : g' = j := by simpa [Value.ownBlock] using hj
          exact Or.inl (by omega)
    · intro z c kl yy yp w3 cnt' hkey hlk hv hat hrg' hlt hgr hsz' hen
      obtain ⟨u, hu, rfl⟩ := entsD_has cnt kl (has_true_of_atKey hat)
      obtain ⟨z', e1, e2, _⟩ := Go.WideMaps.string_of_keyOf Tryd.underlying9 hkey
      obtain rfl : z = z' := by injection e1
      obtain rfl : u.key = z := keyL_inj e2
      obtain rfl : c = itemV u.value := by
        have e4 := hat .nil
        rw [(entsD_at cnt HN.out u hu).2] at e4
        unfold heldS at hv
        injection hv with hv
        injection hv with hv _
        rw [← hv] at e4
        injection e4 with e4
        exact e4.symm
      have G3 := Lib.hid (grown_newE HG.out hgr (Nat.le_refl _)); have RG3 := Lib.hid hrg'
      have CT := Lib.hid hlt; have CE := Lib.hid (RG0.out.left_eq); have HLK := Lib.hid hlk; have HU := Lib.hid hu
      have O := OwF.start (fun _ => False) w3
      have hv3 : w3.ownsRow (w0.heap.size + 1) 57 2 _ xs.length (esCells xs) := HV.out.kept hgr (by
        rcases HV.out.2 with ⟨h1, _⟩ | ⟨g', cap, cur, h1, hB, _⟩
        · exact .inl (by rw [h1]; rfl)
        · refine .inr fun e' => ?_
          rw [h1] at e'
          have : g' = w0.heap.size := by simpa [Value.ownBlock] using e'
          omega)
      obtain ⟨a1, c1, hs, _⟩ := (SRow.of_owns HV.out).shape
      subst hs
      have HV3 := Lib.hid hv3
      have HNX := Lib.hid (show xs.length ≤ 1000 by have := HCT.out; have := HS.out; omega)
      have HL3 := Lib.hid (show w0.heap.size + 1 ≤ w3.heap.size from by rw [hsz']; have := RG0.out.lt; omega)
      clear hkey hlk hv hat hrg' hlt hgr hsz' e1 e2 hu hv3
      have BML := Lib.hid HM.out.lt
      go_wp2_with (first | ((with_reducible refine @wpList_at _ _ _ _ _ _ _ (.alloc 72) rfl ?_); refine @wpList_of_alloc _ _ _ _ _ _ _ _ _ _ 72 rfl [Value.string ⟨#[]⟩] ZIt2 O rfl ?_; clear O; intro b5 w O) | ((with_reducible refine @wpList_at _ _ _ _ _ _ _ (.store 72 (.tmp 5) (.tmp 17)) rfl ?_); refine @wpList_of_store _ _ _ _ _ _ _ _ _ _ 72 (.tmp 5) (.tmp 17) rfl O 0 b5 rfl [.string u.value] [Value.string ⟨#[]⟩] _ rfl rfl rfl (by simp [Value.oneCell']) rfl rfl ?_; clear O; intro w O; simp only [List.set_cons_zero] at O) | ((with_reducible refine @wpList_at _ _ _ _ _ _ _ (.load 9 (.tmp 20)) rfl ?_); refine @wpList_of_cell _ _ _ _ _ _ _ _ _ _ 9 (.tmp 20) rfl O 0 b5 0 rfl _ _ rfl _ rfl _ Tryd.underlying9 rfl rfl ?_) | (refine wpList_build_eq rfl 57 _ rfl [(0, .string u.key), (1, .string u.value)] (by kernel_rfl) [.string u.key, .string u.value] (bEntN _ _) ?_) | (refine wpList_of_slice1 47 _ rfl [.string u.key, .string u.value] rfl 57 _ 2 Tryd.underlying47 entN_i2 rfl (by decide) O rfl ?_; clear O; intro bs w O) | (refine wpList_wanted rfl fun K hK => ?_; refine wp_append_srcs w _ _ 47 47 rfl (w0.heap.size + 1) 57 _ 2 32 Tryd.underlying47 entN_i rfl _ xs.length (esCells xs) rfl (HV3.out.kept (O.tch.grown (fun _ h => h.elim)) (Classical.em _)) _ 1 [.string u.key, .string u.value] rfl (Src.ofSlice _ Tryd.underlying47 _ 1 1 _ rfl (fun j v hj => by rw [addr_add]; exact (O.at_ 0 rfl).row j v hj) (by simp [Value.oneCell'])) (by have := HNX.out; unfold maxLen; omega) (by have := HNX.out; omega) (by have := HL3.out; have := O.tch.size; omega) ?_; intro v' w' ho' G4 hb' _; refine hK _ _ ?_; clear hK K))
      have G1 : w3.grownBy w none := O.tch.grown (fun _ h => h.elim)
      have hz := hb'.size
      have how : ∀ g', (Value.slice a1 xs.length c1).ownBlock = some g' → w0.heap.size + 1 ≤ g' := fun g' e => by
        rcases HV.out.2 with ⟨h1, _⟩ | ⟨g'', cap, cur, h1, hB, _⟩
        · rw [h1] at e; cases e
        · rw [h1] at e
          have : g'' = g' := by simpa [Value.ownBlock] using e
          omega
      have RG5 := (RG3.out.kept G1 (by simp) (by simp)).kept G4 (fun e => by have := how _ e.symm; have := BML.out; omega) (fun e => by have := how _ e.symm; omega)
      have G5 : w0.grownBy w' none := World.grownBy.andThen (G3.out.trans G1) G4 (fun j hj => Or.inl (by have := how j hj; omega))
      refine ⟨⟨_, cnt', xs ++ [u], RG5, ?_, HC.out.step HN.out HU.out HLK.out, G5, ?_⟩, by rw [RG5.left_eq, CE.out]; exact CT.out⟩
      · have := HCT.out; have := CT.out; rw [List.length_append]; simp; omega
      · rw [esCells_snoc, List.length_append]; exact ho'

end Go.Proofs.YtlahdaanfhedoaaDoor
