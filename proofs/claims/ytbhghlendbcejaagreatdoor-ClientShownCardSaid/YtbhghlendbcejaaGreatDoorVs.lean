/- Walks: verify.next, verify.vouched. Walk: verify.vouched. Walk: verify.Step. -/
import Derived.Test.YtbhghlendbcejaaGreatDoorOw
import Derived.Test.YtbhghlendbcejaaGreatDoorEx
import Derived.Test.YtbhghlendbcejaaGreatDoorLx
import Derived.Test.YtbhghlendbcejaaGreatDoorSnd
import Derived.Test.YtbhghlendbcejaaGreatDoorR15
namespace Go.Proofs.YtbhghlendbcejaaGreatDoor
open Go.RowKit
set_option maxRecDepth 100000

section
variable (l : LtR)
theorem LtR.tail_get (hl : l.wf) (k : Nat) {v : Value} (hk : (l.mid ++ [.slice l.sa l.sn l.sc, .slice l.ta l.tn l.tc, .slice l.na l.nn l.nc])[k]? = some v) : l.cells[163 + k]? = some v := by
  rw [LtR.cells, List.getElem?_append_right (by rw [l.header.cells_length hl.header]; omega), l.header.cells_length hl.header, Nat.add_sub_cancel_left]
  exact hk
theorem LtR.get_height (hl : l.wf) : l.cells[163]? = some (.int .i64 l.height) := l.tail_get hl 0 rfl
theorem LtR.get_seals (hl : l.wf) : l.cells[197]? = some (.slice l.sa l.sn l.sc) :=
  l.tail_get hl 34 (by rw [List.getElem?_append_right (by rw [l.mid_length hl]; omega), l.mid_length hl]; rfl)
theorem LtR.get_set (hl : l.wf) : l.cells[198]? = some (.slice l.ta l.tn l.tc) :=
  l.tail_get hl 35 (by rw [List.getElem?_append_right (by rw [l.mid_length hl]; omega), l.mid_length hl]; rfl)
theorem LtR.get_next (hl : l.wf) : l.cells[199]? = some (.slice l.na l.nn l.nc) :=
  l.tail_get hl 36 (by rw [List.getElem?_append_right (by rw [l.mid_length hl]; omega), l.mid_length hl]; rfl)
end

set_option maxHeartbeats 4000000 in
theorem next_ok (x y : LtR) (a b : LightD) (w0 : World) (hx : x.wf) (hy : y.wf) (ea : x.header = a.header) (eb : y.header = b.header) (hR : RowAt w0 1 0 (wCells rootsL)) :
    Calls Tryz.prog 77 #[.agg x.cells.toArray, .agg y.cells.toArray] w0 fun e w' => e = .returned (.int .i64 (nextL a b)) ∧ w0.grownBy w' none := by
  have EN : nextL a b = if y.header.set ≠ x.header.next then 157 else if okHeader x.header = false ∨ y.header.last ≠ hdrHash x.header then 153 else 0 := by unfold nextL; rw [ea, eb]
  rw [EN]
  have O := Own.start w0
  have HX := Lib.hid hx; have HY := Lib.hid hy; have HR := Lib.hid hR
  have C1 := fun w (h : RowAt w 1 0 (wCells rootsL)) => HeaderHash_any x.header w hx.header h
  unfold Hashes at C1
  have L1 := Lib.hid (hshL_len 2 (okHeader x.header) (encHeader x.header))
  have EX := hdr_err x.header
  obtain ⟨X1, hX1⟩ : ∃ y, hshL 2 (okHeader x.header) (encHeader x.header) = y := ⟨_, rfl⟩
  obtain ⟨k1, hk1⟩ : ∃ y, okHeader x.header = y := ⟨_, rfl⟩
  rw [hX1] at C1 L1 EX
  rw [hk1] at C1 EX ⊢
  obtain ⟨e1, he1⟩ : ∃ y : Int, (if k1 then 0 else 61) = y := ⟨_, rfl⟩
  rw [he1] at C1
  have C1 := Lib.hid C1
  have Q1 := Lib.hid hy.header.set; have Q2 := Lib.hid hx.header.next; have Q3 := Lib.hid hy.header.last
  have R1 : ∀ (w : World) (g : Nat), RowAt w g 0 y.cells → RowAt w g 35 (Lib.byteCells y.header.set) := fun _ _ h => LtR.hset_at h hy
  have R2 : ∀ (w : World) (g : Nat), RowAt w g 0 x.cells → RowAt w g 67 (Lib.byteCells x.header.next) := fun _ _ h => LtR.hnext_at h hx
  have R3 : ∀ (w : World) (g : Nat), RowAt w g 0 y.cells → RowAt w g 3 (Lib.byteCells y.header.last) := fun _ _ h => LtR.last_at h hy
  obtain ⟨Y1, hY1⟩ : ∃ z, y.header.set = z := ⟨_, rfl⟩
  obtain ⟨Y2, hY2⟩ : ∃ z, x.header.next = z := ⟨_, rfl⟩
  obtain ⟨Y3, hY3⟩ : ∃ z, y.header.last = z := ⟨_, rfl⟩
  rw [hY1] at Q1 R1 ⊢; rw [hY2] at Q2 R2 ⊢; rw [hY3] at Q3 R3 ⊢
  obtain ⟨n1, hn1⟩ : ∃ n, (!VEq (Lib.byteCells Y1) (Lib.byteCells Y2)) = n := ⟨_, rfl⟩
  obtain ⟨n2, hn2⟩ : ∃ n, (!VEq (Lib.byteCells Y3) (Lib.byteCells X1)) = n := ⟨_, rfl⟩
  have I1 := hne hn1; have I2 := hne hn2
  have N1 := Lib.hid hn1; have N2 := Lib.hid hn2
  have R1 := Lib.hid R1; have R2 := Lib.hid R2; have R3 := Lib.hid R3
  have hE : (if Y1 ≠ Y2 then (157 : Int) else if k1 = false ∨ Y3 ≠ hdrHash x.header then 153 else 0) = if n1 then 157 else if k1 then (if n2 then 153 else 0) else 153 := by
    cases n1 with
    | true => rw [if_pos (I1.1 rfl)]; rfl
    | false =>
      rw [if_neg (fun h => by have := I1.2 h; cases this)]
      cases k1 with
      | false => rw [if_pos (.inl rfl)]; rfl
      | true =>
        have EX : X1 = hdrHash x.header := EX
        rw [← EX]
        cases n2 with
        | true => rw [if_pos (.inr (I2.1 rfl))]; rfl
        | false => rw [if_neg (fun h => by rcases h with h | h; cases h; have := I2.2 h; cases this)]; rfl
  rw [hE]
  clear EN ea eb hx hy hR hX1 hk1 EX hY1 hY2 hY3 hn1 hn2 I1 I2 hE
  go_enter Tryz.func77, Tryz.ntmps77
  go_wp2_with (first | (refine @wpList_own_box _ _ _ _ _ _ _ _ _ 31 _ rfl x.cells rfl O rfl ?_; clear O; intro bx w O) | (refine @wpList_own_box _ _ _ _ _ _ _ _ _ 31 _ rfl y.cells rfl O rfl ?_; clear O; intro bY w O) | (refine @wpList_own_part _ _ _ _ _ _ _ _ _ 25 _ rfl O 1 bx 0 rfl _ _ rfl x.header.cells _ (fun h => LtR.hdr_at h HX.out) Tryz.underlying25 rfl (sizeHeader _ (x.header.cells_length HX.out.header)) rfl ?_))
  refine (C1.out _ (HR.out.grown O.grown (by simp))).mono ?_
  rintro e w ⟨rfl, g⟩
  replace O := O.call g
  clear g C1
  cases n1 with
  | true =>
    go_wp2_with (first | ((with_reducible refine @wpList_at _ _ _ _ _ _ _ (.alloc 23) rfl ?_); refine @wpList_own_alloc _ _ _ _ _ _ _ _ _ 23 rfl ZH ZH_info O rfl ?_; clear O; intro p w O) | (refine @wpList_own_store _ _ _ _ _ _ _ _ _ 23 _ _ rfl O 0 p rfl (Lib.byteCells X1) ZH _ rfl rfl (by rw [Lib.byteCells_length, L1.out]; rfl) (oneCell_bytes _) (sizeH _ (by rw [Lib.byteCells_length, L1.out])) rfl ?_; clear O; intro w O; simp only [List.set_cons_zero] at O) | (refine @wpList_own_part _ _ _ _ _ _ _ _ _ 23 _ rfl O 1 bY 35 rfl _ _ rfl (Lib.byteCells Y1) _ (fun h => R1.out _ _ h) Tryz.underlying23 rfl (sizeH _ (by rw [Lib.byteCells_length, Q1.out])) rfl ?_) | (refine @wpList_own_part _ _ _ _ _ _ _ _ _ 23 _ rfl O 2 bx 67 rfl _ _ rfl (Lib.byteCells Y2) _ (fun h => R2.out _ _ h) Tryz.underlying23 rfl (sizeH _ (by rw [Lib.byteCells_length, Q2.out])) rfl ?_) | (refine @wpList_neq_own _ _ _ _ _ _ _ 23 _ _ _ rfl (Lib.byteCells Y1) (Lib.byteCells Y2) kHash rfl rfl hash_flat (hash_fits _ Q1.out) (hash_fits _ Q2.out) rfl (by kernel_rfl) rfl ?_; rw [N1.out]))
    go_ret
    exact ⟨rfl, O.grown⟩
  | false =>
    cases k1 with
    | false =>
      have he1 : e1 = 61 := he1.symm
      subst he1
      go_wp2_with (first | ((with_reducible refine @wpList_at _ _ _ _ _ _ _ (.alloc 23) rfl ?_); refine @wpList_own_alloc _ _ _ _ _ _ _ _ _ 23 rfl ZH ZH_info O rfl ?_; clear O; intro p w O) | (refine @wpList_own_store _ _ _ _ _ _ _ _ _ 23 _ _ rfl O 0 p rfl (Lib.byteCells X1) ZH _ rfl rfl (by rw [Lib.byteCells_length, L1.out]; rfl) (oneCell_bytes _) (sizeH _ (by rw [Lib.byteCells_length, L1.out])) rfl ?_; clear O; intro w O; simp only [List.set_cons_zero] at O) | (refine @wpList_own_part _ _ _ _ _ _ _ _ _ 23 _ rfl O 1 bY 35 rfl _ _ rfl (Lib.byteCells Y1) _ (fun h => R1.out _ _ h) Tryz.underlying23 rfl (sizeH _ (by rw [Lib.byteCells_length, Q1.out])) rfl ?_) | (refine @wpList_own_part _ _ _ _ _ _ _ _ _ 23 _ rfl O 2 bx 67 rfl _ _ rfl (Lib.byteCells Y2) _ (fun h => R2.out _ _ h) Tryz.underlying23 rfl (sizeH _ (by rw [Lib.byteCells_length, Q2.out])) rfl ?_) | (refine @wpList_neq_own _ _ _ _ _ _ _ 23 _ _ _ rfl (Lib.byteCells Y1) (Lib.byteCells Y2) kHash rfl rfl hash_flat (hash_fits _ Q1.out) (hash_fits _ Q2.out) rfl (by kernel_rfl) rfl ?_; rw [N1.out]))
      go_ret
      exact ⟨rfl, O.grown⟩
    | true =>
      have he1 : e1 = 0 := he1.symm
      subst he1
      cases n2 with
      | true =>
        go_wp2_with (first | ((with_reducible refine @wpList_at _ _ _ _ _ _ _ (.alloc 23) rfl ?_); refine @wpList_own_alloc _ _ _ _ _ _ _ _ _ 23 rfl ZH ZH_info O rfl ?_; clear O; intro p w O) | (refine @wpList_own_store _ _ _ _ _ _ _ _ _ 23 _ _ rfl O 0 p rfl (Lib.byteCells X1) ZH _ rfl rfl (by rw [Lib.byteCells_length, L1.out]; rfl) (oneCell_bytes _) (sizeH _ (by rw [Lib.byteCells_length, L1.out])) rfl ?_; clear O; intro w O; simp only [List.set_cons_zero] at O) | (refine @wpList_own_part _ _ _ _ _ _ _ _ _ 23 _ rfl O 1 bY 35 rfl _ _ rfl (Lib.byteCells Y1) _ (fun h => R1.out _ _ h) Tryz.underlying23 rfl (sizeH _ (by rw [Lib.byteCells_length, Q1.out])) rfl ?_) | (refine @wpList_own_part _ _ _ _ _ _ _ _ _ 23 _ rfl O 2 bx 67 rfl _ _ rfl (Lib.byteCells Y2) _ (fun h => R2.out _ _ h) Tryz.underlying23 rfl (sizeH _ (by rw [Lib.byteCells_length, Q2.out])) rfl ?_) | (refine @wpList_own_part _ _ _ _ _ _ _ _ _ 23 _ rfl O 1 bY 3 rfl _ _ rfl (Lib.byteCells Y3) _ (fun h => R3.out _ _ h) Tryz.underlying23 rfl (sizeH _ (by rw [Lib.byteCells_length, Q3.out])) rfl ?_) | (refine @wpList_own_whole _ _ _ _ _ _ _ _ _ 23 _ rfl O 0 p rfl (Lib.byteCells X1) _ rfl _ Tryz.underlying23 rfl (sizeH _ (by rw [Lib.byteCells_length, L1.out])) rfl ?_) | (refine @wpList_neq_own _ _ _ _ _ _ _ 23 _ _ _ rfl (Lib.byteCells Y1) (Lib.byteCells Y2) kHash rfl rfl hash_flat (hash_fits _ Q1.out) (hash_fits _ Q2.out) rfl (by kernel_rfl) rfl ?_; rw [N1.out]) | (refine @wpList_neq_own _ _ _ _ _ _ _ 23 _ _ _ rfl (Lib.byteCells Y3) (Lib.byteCells X1) kHash rfl rfl hash_flat (hash_fits _ Q3.out) (hash_fits _ L1.out) rfl (by kernel_rfl) rfl ?_; rw [N2.out]))
        go_ret
        exact ⟨rfl, O.grown⟩
      | false =>
        go_wp2_with (first | ((with_reducible refine @wpList_at _ _ _ _ _ _ _ (.alloc 23) rfl ?_); refine @wpList_own_alloc _ _ _ _ _ _ _ _ _ 23 rfl ZH ZH_info O rfl ?_; clear O; intro p w O) | (refine @wpList_own_store _ _ _ _ _ _ _ _ _ 23 _ _ rfl O 0 p rfl (Lib.byteCells X1) ZH _ rfl rfl (by rw [Lib.byteCells_length, L1.out]; rfl) (oneCell_bytes _) (sizeH _ (by rw [Lib.byteCells_length, L1.out])) rfl ?_; clear O; intro w O; simp only [List.set_cons_zero] at O) | (refine @wpList_own_part _ _ _ _ _ _ _ _ _ 23 _ rfl O 1 bY 35 rfl _ _ rfl (Lib.byteCells Y1) _ (fun h => R1.out _ _ h) Tryz.underlying23 rfl (sizeH _ (by rw [Lib.byteCells_length, Q1.out])) rfl ?_) | (refine @wpList_own_part _ _ _ _ _ _ _ _ _ 23 _ rfl O 2 bx 67 rfl _ _ rfl (Lib.byteCells Y2) _ (fun h => R2.out _ _ h) Tryz.underlying23 rfl (sizeH _ (by rw [Lib.byteCells_length, Q2.out])) rfl ?_) | (refine @wpList_own_part _ _ _ _ _ _ _ _ _ 23 _ rfl O 1 bY 3 rfl _ _ rfl (Lib.byteCells Y3) _ (fun h => R3.out _ _ h) Tryz.underlying23 rfl (sizeH _ (by rw [Lib.byteCells_length, Q3.out])) rfl ?_) | (refine @wpList_own_whole _ _ _ _ _ _ _ _ _ 23 _ rfl O 0 p rfl (Lib.byteCells X1) _ rfl _ Tryz.underlying23 rfl (sizeH _ (by rw [Lib.byteCells_length, L1.out])) rfl ?_) | (refine @wpList_neq_own _ _ _ _ _ _ _ 23 _ _ _ rfl (Lib.byteCells Y1) (Lib.byteCells Y2) kHash rfl rfl hash_flat (hash_fits _ Q1.out) (hash_fits _ Q2.out) rfl (by kernel_rfl) rfl ?_; rw [N1.out]) | (refine @wpList_neq_own _ _ _ _ _ _ _ 23 _ _ _ rfl (Lib.byteCells Y3) (Lib.byteCells X1) kHash rfl rfl hash_flat (hash_fits _ Q3.out) (hash_fits _ L1.out) rfl (by kernel_rfl) rfl ?_; rw [N2.out]))
        go_ret
        exact ⟨rfl, O.grown⟩

theorem pow_small {ds : List ValD} (h : rightL ds = true) (key : Int) : 0 ≤ powL key ds ∧ powL key ds ≤ 1125899906842624 := by
  have hd := right_each h
  clear h
  induction ds with
  | nil => simp [powL]
  | cons d l ih =>
    unfold powL
    have := hd d (by simp)
    split
    · omega
    · exact ih fun x hx => hd x (by simp [hx])
theorem powS_small {ds : List ValD} (h : rightL ds = true) : ∀ l : List SealD, 0 ≤ powS ds l ∧ powS ds l ≤ l.length * 1125899906842624
  | [] => by simp [powS]
  | s :: l => by
    have := powS_small h l
    have := pow_small h s.key
    have e : powS ds (s :: l) = powL s.key ds + powS ds l := by simp [powS]
    rw [e, List.length_cons]
    omega
theorem total_small (ds : List ValD) : 0 ≤ totalL ds ∧ totalL ds ≤ 1125899906842624 := by
  unfold totalL
  split
  · obtain ⟨n, e, h1, h2⟩ := rightL_sum ‹_›
    rw [e]; exact ⟨h1, h2⟩
  · omega
theorem shared_small {ds : List ValD} {chain : ByteArray} {c : CommitD} (hn : c.seals.length ≤ 1000) (h : (sharedL ds chain c).2 = 0) : 0 ≤ (sharedL ds chain c).1 ∧ (sharedL ds chain c).1 < 9223372036854775808 := by
  obtain ⟨h1, _, _, _, e⟩ := shared_ok h
  have := powS_small h1 c.seals
  rw [e]
  omega

set_option maxHeartbeats 4000000 in
theorem vouched_ok (x y : LtR) (a b : LightD) (o : OptD) (w0 : World) (ha : a.wf) (hb : b.wf) (ox : x.of w0.heap.size w0 a) (oy : y.of w0.heap.size w0 b) (ho : o.wf) (hr : rightO o = true) (nb : b.commit.seals.length ≤ 1000) (hch : a.header.chain.size ≤ maxLen)
    (hR : RowAt w0 1 0 (wCells rootsL)) :
    Calls Tryz.prog 78 #[.agg x.cells.toArray, .agg y.cells.toArray, .agg o.cells.toArray] w0 fun e w' => e = .returned (.int .i64 (vouchL a b o)) ∧ w0.grownBy w' none := by
  have O := Own.start w0
  have HX := Lib.hid (ox.wf ha); have HY := Lib.hid (oy.wf hb); have HR := Lib.hid hR; have OX := Lib.hid ox; have OY := Lib.hid oy
  have HB := Lib.hid hb; have HCh := Lib.hid hch; have HN := Lib.hid nb
  have GN := Lib.hid (LtR.get_next x HX.out)
  have GC := Lib.hid (show x.cells[0]? = some (.string a.header.chain) by rw [← ox.header]; rfl)
  have hlv := ((rightO_iff ho).1 hr).1
  have CS := Lib.hid (fun w (g : w0.grownBy w none) => Shared_ok (.slice x.na x.nn x.nc) a.next a.header.chain b.commit y.comCells w (OX.out.grown g).next HCh.out HB.out.commit ((OY.out.up g (Nat.le_refl _)).com) HN.out (HR.out.grown g (by simp)) g.size)
  have CT := Lib.hid (fun w (g : w0.grownBy w none) => vTotal_ok (.slice x.na x.nn x.nc) a.next w (OX.out.grown g).next)
  have hs := @shared_small a.next a.header.chain b.commit nb
  have hsk := @shared_ok a.next a.header.chain b.commit
  have ht := total_small a.next
  unfold vouchL
  obtain ⟨n, hn⟩ : ∃ n, (sharedL a.next a.header.chain b.commit).1 = n := ⟨_, rfl⟩
  obtain ⟨e1, he1⟩ : ∃ n, (sharedL a.next a.header.chain b.commit).2 = n := ⟨_, rfl⟩
  obtain ⟨t, ht1⟩ : ∃ n, totalL a.next = n := ⟨_, rfl⟩
  have CS := CS.out; have CT := CT.out
  rw [hn, he1] at CS hs ⊢
  rw [ht1] at CT ht ⊢
  rw [he1] at hsk
  by_cases h0 : e1 = 0
  · subst h0
    obtain ⟨hk, _⟩ := hsk rfl
    rw [hk] at CT
    rw [if_neg (fun h => h rfl)]
    obtain ⟨P, hP⟩ : ∃ P : Nat, n = P := ⟨n.toNat, by have := hs rfl; omega⟩
    obtain ⟨T, hT⟩ : ∃ P : Nat, t = P := ⟨t.toNat, by omega⟩
    subst hP hT
    have CE := fun w => Exceeds_ok P T o.level w (by have := (hs rfl).2; omega) (by omega) hlv.1 hlv.2
    obtain ⟨q, hq⟩ : ∃ q, excL P T o.level = q := ⟨_, rfl⟩
    rw [hq] at CE ⊢
    have CS := Lib.hid CS; have CT := Lib.hid CT; have CE := Lib.hid CE
    clear hs hsk ht hn he1 ht1 hq hlv hk ha hb ox oy ho hr nb hch hR
    go_enter Tryz.func78, Tryz.ntmps78
    go_wp2_with (first | (refine @wpList_own_box _ _ _ _ _ _ _ _ _ 31 _ rfl x.cells rfl O rfl ?_; clear O; intro bx w O) | (refine @wpList_own_box _ _ _ _ _ _ _ _ _ 31 _ rfl y.cells rfl O rfl ?_; clear O; intro bY w O) | (refine @wpList_own_box _ _ _ _ _ _ _ _ _ 43 _ rfl o.cells rfl O rfl ?_; clear O; intro bo w O) | (refine @wpList_own_cell _ _ _ _ _ _ _ _ _ 29 _ rfl O 2 bx 199 rfl _ _ rfl _ GN.out _ Tryz.underlying29 rfl rfl ?_) | (refine @wpList_own_cell _ _ _ _ _ _ _ _ _ 9 _ rfl O 2 bx 0 rfl _ _ rfl _ GC.out _ Tryz.underlying9 rfl rfl ?_) | (refine @wpList_own_part _ _ _ _ _ _ _ _ _ 28 _ rfl O 1 bY 163 rfl _ _ rfl y.comCells _ (fun h => LtR.com_at h HY.out) Tryz.underlying28 rfl (by rw [LtR.com_length HY.out]; exact sizeCommit) rfl ?_))
    refine (CS.out _ O.grown).mono ?_
    rintro e w ⟨rfl, g⟩
    replace O := O.call g
    clear g
    go_wp2_with (first | (refine @wpList_own_cell _ _ _ _ _ _ _ _ _ 29 _ rfl O 2 bx 199 rfl _ _ rfl _ GN.out _ Tryz.underlying29 rfl rfl ?_))
    refine (CT.out _ O.grown).mono ?_
    rintro e w ⟨rfl, g⟩
    replace O := O.call g
    clear g
    go_wp2_with (first | (refine @wpList_own_cell _ _ _ _ _ _ _ _ _ 41 _ rfl O 0 bo 0 rfl _ _ rfl _ rfl _ Tryz.underlying41 rfl rfl ?_))
    refine (CE.out _).mono ?_
    rintro e w ⟨rfl, g⟩
    replace O := O.call g
    clear g
    cases q
    · go_wp2_with fail
      go_ret
      exact ⟨rfl, O.grown⟩
    · go_wp2_with fail
      go_ret
      exact ⟨rfl, O.grown⟩
  · rw [if_pos h0]
    have t0 : (e1 != 0) = true := by simpa using h0
    have CS := Lib.hid CS
    clear hs hsk ht hn he1 ht1 hlv ha hb ox oy ho hr nb hch hR h0 CT
    go_enter Tryz.func78, Tryz.ntmps78
    go_wp2_with (first | (refine @wpList_own_box _ _ _ _ _ _ _ _ _ 31 _ rfl x.cells rfl O rfl ?_; clear O; intro bx w O) | (refine @wpList_own_box _ _ _ _ _ _ _ _ _ 31 _ rfl y.cells rfl O rfl ?_; clear O; intro bY w O) | (refine @wpList_own_box _ _ _ _ _ _ _ _ _ 43 _ rfl o.cells rfl O rfl ?_; clear O; intro bo w O) | (refine @wpList_own_cell _ _ _ _ _ _ _ _ _ 29 _ rfl O 2 bx 199 rfl _ _ rfl _ GN.out _ Tryz.underlying29 rfl rfl ?_) | (refine @wpList_own_cell _ _ _ _ _ _ _ _ _ 9 _ rfl O 2 bx 0 rfl _ _ rfl _ GC.out _ Tryz.underlying9 rfl rfl ?_) | (refine @wpList_own_part _ _ _ _ _ _ _ _ _ 28 _ rfl O 1 bY 163 rfl _ _ rfl y.comCells _ (fun h => LtR.com_at h HY.out) Tryz.underlying28 rfl (by rw [LtR.com_length HY.out]; exact sizeCommit) rfl ?_))
    refine (CS.out _ O.grown).mono ?_
    rintro e w ⟨rfl, g⟩
    replace O := O.call g
    clear g
    go_wp2_with fail
    go_ret
    exact ⟨rfl, O.grown⟩

theorem sizeOpt {o : OptD} : (Tryz.prog.info? 43).map (·.size) = some o.cells.length := by unfold OptD.cells; kernel_rfl
theorem Own.row_of {w0 w : World} {L : List (Nat × List Value × TypeId)} {g : Nat} {cs : List Value} {T : TypeId} (O : Own w0 w L) (h : (g, cs, T) ∈ L) : RowAt w g 0 cs := (O.blk _ h).row
set_option maxHeartbeats 8000000 in
theorem Step_ok (x y : LtR) (a b : LightD) (now : Nat) (o : OptD) (w0 : World) (ha : a.wf) (hb : b.wf) (ox : x.of w0.heap.size w0 a) (oy : y.of w0.heap.size w0 b) (hnow : now < 18446744073709551616) (ho : o.wf) (nb : b.commit.seals.length ≤ 1000) (hch : a.header.chain.size ≤ maxLen)
    (hR : RowAt w0 1 0 (wCells rootsL)) :
    Calls Tryz.prog 47 #[.agg x.cells.toArray, .agg y.cells.toArray, .float .f64 now, .agg o.cells.toArray] w0 fun e w' => e = .returned (.int .i64 (vstepL a b now o)) ∧ w0.grownBy w' none := by
  have O := Own.start w0
  have HX := Lib.hid (ox.wf ha); have HY := Lib.hid (oy.wf hb)
  have CR := Lib.hid (optRight_ok o)
  have CI := isInf_ok now; have CN := isNaN_ok now; have hfin := finB_eq hnow
  have CE := Lib.hid (fun w => expired_ok a.header.time now o w hnow ha.header.time)
  have CS := Lib.hid (fun w (g : w0.grownBy w none) => vSound_ok a.header.chain y b w hb (oy.up g (Nat.le_refl _)) nb hch (hR.grown g (by simp)))
  have CX := Lib.hid (fun w (g : w0.grownBy w none) => next_ok x y a b w HX.out HY.out ox.header oy.header (hR.grown g (by simp)))
  have CV := fun (hr : rightO o = true) w (g : w0.grownBy w none) => vouched_ok x y a b o w ha hb (ox.up g (Nat.le_refl _)) (oy.up g (Nat.le_refl _)) ho hr nb hch (hR.grown g (by simp))
  have hsubE : finB now = true → ∃ z, floatBits .sub .f64 (i2f b.header.time) now = some z := fun h => by
    obtain ⟨z, h1, _⟩ := sub_fin (i2f_fin b.header.time ⟨hb.header.time.1, by have := hb.header.time.2; omega⟩).1 ((finB_iff hnow).1 h)
    exact ⟨z, h1⟩
  have P0 := Lib.hid (show x.header.cells[0]? = some (.string a.header.chain) by rw [ox.header]; rfl)
  have P1 := Lib.hid (show x.header.cells[1]? = some (.int .i64 a.header.height) by rw [ox.header]; rfl)
  have P2 := Lib.hid (show x.header.cells[2]? = some (.int .i64 a.header.time) by rw [ox.header]; rfl)
  have Q1 := Lib.hid (show y.header.cells[1]? = some (.int .i64 b.header.height) by rw [oy.header]; rfl)
  have Q2 := Lib.hid (show y.header.cells[2]? = some (.int .i64 b.header.time) by rw [oy.header]; rfl)
  have hha := ha.header.height; have hhb := hb.header.height
  unfold vstepL
  obtain ⟨r, hr⟩ : ∃ z, rightO o = z := ⟨_, rfl⟩
  obtain ⟨n1, hn1⟩ : ∃ z, nanF now = z := ⟨_, rfl⟩
  obtain ⟨n2, hn2⟩ : ∃ z, infF now = z := ⟨_, rfl⟩
  obtain ⟨ex, hex⟩ : ∃ z, expF a.header.time now o = z := ⟨_, rfl⟩
  obtain ⟨s, hs⟩ : ∃ z, soundL a.header.chain b = z := ⟨_, rfl⟩
  obtain ⟨nx, hnx⟩ : ∃ z, nextL a b = z := ⟨_, rfl⟩
  obtain ⟨vo, hvo⟩ : ∃ z, vouchL a b o = z := ⟨_, rfl⟩
  obtain ⟨gt, hgt⟩ : ∃ z, gtF (subF (i2f b.header.time) now) o.drift = z := ⟨_, rfl⟩
  rw [hr] at CR CV; rw [hn1] at CN hfin; rw [hn2] at CI hfin; rw [hex] at CE; rw [hs] at CS; rw [hnx] at CX; rw [hvo] at CV
  rw [hfin] at hsubE
  rw [hr, hfin, hex, hs, hnx, hvo, hgt]
  unfold subF i2f at hgt
  unfold i2f at hsubE
  unfold gtF ordF at hgt
  obtain ⟨h1, eh1⟩ : ∃ z, a.header.height = z := ⟨_, rfl⟩
  obtain ⟨t1, et1⟩ : ∃ z, a.header.time = z := ⟨_, rfl⟩
  obtain ⟨h2, eh2⟩ : ∃ z, b.header.height = z := ⟨_, rfl⟩
  obtain ⟨t2, et2⟩ : ∃ z, b.header.time = z := ⟨_, rfl⟩
  rw [eh1] at P1 hha ⊢; rw [et1] at P2 CE ⊢; rw [eh2] at Q1 hhb ⊢; rw [et2] at Q2 hsubE hgt ⊢
  obtain ⟨V, hV⟩ : ∃ V, (if r = false then (151 : Int) else if (!(n1 || n2)) = false then 154 else if ex = true then 155 else if h2 ≤ h1 ∨ t2 ≤ t1 then 153 else if gt = true then 156 else if s ≠ 0 then s else if h2 - 1 = h1 then nx else vo) = V := ⟨_, rfl⟩
  rw [hV]
  have HV := Lib.hid hV
  have CI := Lib.hid (fun w => CI w hnow); have CN := Lib.hid CN; have CV := Lib.hid CV; have HS := Lib.hid hsubE; have HG := Lib.hid hgt; have HHa := Lib.hid hha; have HHb := Lib.hid hhb
  clear hV hr hn1 hn2 hex hs hnx hvo hgt hfin hsubE eh1 et1 eh2 et2 ha hb ox oy ho nb hch hR hnow hha hhb
  go_enter Tryz.func47, Tryz.ntmps47
  go_upto_region 1 with (first | (refine @wpList_own_box _ _ _ _ _ _ _ _ _ 31 _ rfl x.cells rfl O rfl ?_; clear O; intro bx w O) | (refine @wpList_own_box _ _ _ _ _ _ _ _ _ 31 _ rfl y.cells rfl O rfl ?_; clear O; intro bY w O) | (refine @wpList_own_box _ _ _ _ _ _ _ _ _ 43 _ rfl o.cells rfl O rfl ?_; clear O; intro bo w O))
  go_cut [9, 10] from 12 (fun s9 s10 w' => ∃ p q, s9 = .pointer (some ⟨p, 0, none⟩) ∧ s10 = .pointer (some ⟨q, 0, none⟩) ∧ Own w0 w' ((p, x.header.cells, 25) :: (q, y.header.cells, 25) :: [(bo, o.cells, 43), (bY, y.cells, 31), (bx, x.cells, 31)]))
  case first =>
    replace O := O.drew
    refine wp_region_held_drew (S := fun W => ∃ L, Own w0 W (L ++ [(bo, o.cells, 43), (bY, y.cells, 31), (bx, x.cells, 31)])) (by kernel_rfl) ⟨[], O⟩ (fun hH => ?_)
    refine wpAnyH_take (i := 0) (v := (.pointer (some ⟨bx, 0, none⟩))) rfl (by kernel_rfl) (by kernel_rfl) (by kernel_rfl) (fun _ _ _ h => h) (Or.inl ⟨by rfl, fun W hS => by go_simp⟩) hH ?_
    simp only [Act.put, List.getElem_toArray, List.getElem_cons_zero, List.setIfInBounds_toArray, List.set_cons_zero, List.set_cons_succ]
    refine wpAnyH_take (i := 1) (v := (.agg x.header.cells.toArray)) rfl (by kernel_rfl) (by kernel_rfl) (by kernel_rfl) (fun _ _ _ h => h) (yieldsIf_load_mid (by rfl) 25 _ rfl bx 0 rfl x.header.cells _ (fun W hS => by obtain ⟨L, O⟩ := hS; exact LtR.hdr_at ((O.row_of (g := bx) (cs := x.cells) (T := 31) (by simp))) HX.out) Tryz.underlying25 rfl (sizeHeader _ (x.header.cells_length HX.out.header))) hH ?_
    simp only [Act.put, List.getElem_toArray, List.getElem_cons_succ, List.getElem_cons_zero, List.setIfInBounds_toArray, List.set_cons_zero, List.set_cons_succ]
    refine wpAnyH_take (i := 2) (v := (.pointer (some ⟨bY, 0, none⟩))) rfl (by kernel_rfl) (by kernel_rfl) (by kernel_rfl) (fun _ _ _ h => h) (Or.inl ⟨by rfl, fun W hS => by go_simp⟩) hH ?_
    simp only [Act.put, List.getElem_toArray, List.getElem_cons_succ, List.getElem_cons_zero, List.setIfInBounds_toArray, List.set_cons_zero, List.set_cons_succ]
    refine wpAnyH_take (i := 3) (v := (.agg y.header.cells.toArray)) rfl (by kernel_rfl) (by kernel_rfl) (by kernel_rfl) (fun _ _ _ h => h) (yieldsIf_load_mid (by rfl) 25 _ rfl bY 0 rfl y.header.cells _ (fun W hS => by obtain ⟨L, O⟩ := hS; exact LtR.hdr_at ((O.row_of (g := bY) (cs := y.cells) (T := 31) (by simp))) HY.out) Tryz.underlying25 rfl (sizeHeader _ (y.header.cells_length HY.out.header))) hH ?_
    simp only [Act.put, List.getElem_toArray, List.getElem_cons_succ, List.getElem_cons_zero, List.setIfInBounds_toArray, List.set_cons_zero, List.set_cons_succ]
    refine wpAnyH_ready (rs := [4, 5]) (by kernel_rfl) (by simp) ?_
    refine AllReadyH.cons rfl (fun K hK => ?_) (AllReadyH.cons rfl (fun K hK => ?_) (AllReadyH.nil))
    · refine step_G (by rfl) (wp_own_alloc 25 (by rfl) ZHeader ZHeader_info O ?_)
      intro p u1 O1
      simp only [Act.put, List.getElem_toArray, List.getElem_cons_succ, List.getElem_cons_zero, List.setIfInBounds_toArray, List.set_cons_zero, List.set_cons_succ]
      refine hK.out _ _ ⟨[_], O1⟩ (fun hH => ?_)
      clear hK K
      refine wpAnyH_ready (rs := [5]) (by kernel_rfl) (by simp) ?_
      refine AllReadyH.cons rfl (fun K hK => ?_) (AllReadyH.nil)
      refine step_G (by rfl) (wp_own_alloc 25 (by rfl) ZHeader ZHeader_info O1 ?_)
      intro q u2 O2
      simp only [Act.put, List.getElem_toArray, List.getElem_cons_succ, List.getElem_cons_zero, List.setIfInBounds_toArray, List.set_cons_zero, List.set_cons_succ]
      refine hK.out _ _ ⟨[_, _], O2⟩ (fun hH => ?_)
      clear hK K
      refine wpAnyH_ready (rs := [6]) (by kernel_rfl) (by simp) ?_
      refine AllReadyH.cons rfl (fun K hK => ?_) (AllReadyH.nil)
      refine step_G (by rfl) (wp_own_store 25 _ _ (by rfl) O2 1 p (by rfl) x.header.cells ZHeader _ rfl (by rfl) (by rw [x.header.cells_length HX.out.header]; rfl) (HeaderD_one _) (sizeHeader _ (x.header.cells_length HX.out.header)) ?_)
      intro u3 O3
      simp only [Act.put, List.getElem_toArray, List.getElem_cons_succ, List.getElem_cons_zero]
      refine hK.out _ _ ⟨[_, _], O3⟩ (fun hH => ?_)
      clear hK K
      refine wpAnyH_ready (rs := [7]) (by kernel_rfl) (by simp) ?_
      refine AllReadyH.cons rfl (fun K hK => ?_) (AllReadyH.nil)
      refine step_G (by rfl) (wp_own_store 25 _ _ (by rfl) O3 0 q (by rfl) y.header.cells ZHeader _ rfl (by rfl) (by rw [y.header.cells_length HY.out.header]; rfl) (HeaderD_one _) (sizeHeader _ (y.header.cells_length HY.out.header)) ?_)
      intro u4 O4
      simp only [Act.put, List.getElem_toArray, List.getElem_cons_succ, List.getElem_cons_zero]
      refine hK.out _ _ ⟨[_, _], O4⟩ (fun hH => ?_)
      clear hK K
      refine wpAnyH_done (by kernel_rfl) ?_ _
      go_wp2
      go_meet
      case rel => exact ⟨p, q, rfl, rfl, O4.perm (List.Perm.swap _ _ _)⟩
    · refine step_G (by rfl) (wp_own_alloc 25 (by rfl) ZHeader ZHeader_info O ?_)
      intro q u1 O1
      simp only [Act.put, List.getElem_toArray, List.getElem_cons_succ, List.getElem_cons_zero]
      refine hK.out _ _ ⟨[_], O1⟩ (fun hH => ?_)
      clear hK K
      refine wpAnyH_ready (rs := [4]) (by kernel_rfl) (by simp) ?_
      refine AllReadyH.cons rfl (fun K hK => ?_) (AllReadyH.nil)
      refine step_G (by rfl) (wp_own_alloc 25 (by rfl) ZHeader ZHeader_info O1 ?_)
      intro p u2 O2
      simp only [Act.put, List.getElem_toArray, List.getElem_cons_succ, List.getElem_cons_zero, List.setIfInBounds_toArray, List.set_cons_zero, List.set_cons_succ]
      refine hK.out _ _ ⟨[_, _], O2⟩ (fun hH => ?_)
      clear hK K
      refine wpAnyH_ready (rs := [6]) (by kernel_rfl) (by simp) ?_
      refine AllReadyH.cons rfl (fun K hK => ?_) (AllReadyH.nil)
      refine step_G (by rfl) (wp_own_store 25 _ _ (by rfl) O2 0 p (by rfl) x.header.cells ZHeader _ rfl (by rfl) (by rw [x.header.cells_length HX.out.header]; rfl) (HeaderD_one _) (sizeHeader _ (x.header.cells_length HX.out.header)) ?_)
      intro u3 O3
      simp only [Act.put, List.getElem_toArray, List.getElem_cons_succ, List.getElem_cons_zero]
      refine hK.out _ _ ⟨[_, _], O3⟩ (fun hH => ?_)
      clear hK K
      refine wpAnyH_ready (rs := [7]) (by kernel_rfl) (by simp) ?_
      refine AllReadyH.cons rfl (fun K hK => ?_) (AllReadyH.nil)
      refine step_G (by rfl) (wp_own_store 25 _ _ (by rfl) O3 1 q (by rfl) y.header.cells ZHeader _ rfl (by rfl) (by rw [y.header.cells_length HY.out.header]; rfl) (HeaderD_one _) (sizeHeader _ (y.header.cells_length HY.out.header)) ?_)
      intro u4 O4
      simp only [Act.put, List.getElem_toArray, List.getElem_cons_succ, List.getElem_cons_zero]
      refine hK.out _ _ ⟨[_, _], O4⟩ (fun hH => ?_)
      clear hK K
      refine wpAnyH_done (by kernel_rfl) ?_ _
      go_wp2
      go_meet
      case rel => exact ⟨p, q, rfl, rfl, O4⟩
  obtain ⟨p, q, rfl, rfl, O⟩ := hcut
  cases r with
  | false =>
    have hv := HV.out; rw [if_pos rfl] at hv; replace HV := Lib.hid hv; clear hv
    go_wp2_with (first | (refine @wpList_own_whole _ _ _ _ _ _ _ _ _ 43 _ rfl O 2 bo rfl o.cells _ rfl _ Tryz.underlying43 rfl sizeOpt rfl ?_))
    refine (CR.out _).mono ?_
    rintro e w ⟨rfl, g⟩
    replace O := O.call g
    clear g
    go_wp2_with (fail)
    go_ret
    rw [← HV.out]
    exact ⟨rfl, O.grown⟩
  | true =>
  have hv := HV.out; rw [if_neg (by decide)] at hv; replace HV := Lib.hid hv; clear hv
  have CW := Lib.hid (CV.out rfl)
  clear CV
  go_wp2_with (first | (refine @wpList_own_whole _ _ _ _ _ _ _ _ _ 43 _ rfl O 2 bo rfl o.cells _ rfl _ Tryz.underlying43 rfl sizeOpt rfl ?_))
  refine (CR.out _).mono ?_
  rintro e w ⟨rfl, g⟩
  replace O := O.call g
  clear g
  go_wp2_with (fail)
  refine (CN.out _).mono ?_
  rintro e w' ⟨rfl, rfl⟩
  cases n1 with
  | true =>
    have hv := HV.out; rw [if_pos (show (!(true || n2)) = false from rfl)] at hv; replace HV := Lib.hid hv; clear hv
    go_wp2_with (fail)
    go_ret
    rw [← HV.out]
    exact ⟨rfl, O.grown⟩
  | false =>
  go_wp2_with (fail)
  refine (CI.out _).mono ?_
  rintro e w' ⟨rfl, rfl⟩
  cases n2 with
  | true =>
    have hv := HV.out; rw [if_pos (show (!(false || true)) = false from rfl)] at hv; replace HV := Lib.hid hv; clear hv
    go_wp2_with (fail)
    go_ret
    rw [← HV.out]
    exact ⟨rfl, O.grown⟩
  | false =>
  have hv := HV.out; rw [if_neg (show ¬ (!(false || false)) = false by decide)] at hv; replace HV := Lib.hid hv; clear hv
  go_wp2_with (first | (refine @wpList_own_whole _ _ _ _ _ _ _ _ _ 43 _ rfl O 2 bo rfl o.cells _ rfl _ Tryz.underlying43 rfl sizeOpt rfl ?_) | (refine @wpList_own_cell _ _ _ _ _ _ _ _ _ 3 _ rfl O 0 p 2 rfl _ _ rfl _ P2.out _ Tryz.underlying3 rfl rfl ?_))
  refine (CE.out _).mono ?_
  rintro e w ⟨rfl, g⟩
  replace O := O.call g
  clear g
  cases ex with
  | true =>
    have hv := HV.out; rw [if_pos rfl] at hv; replace HV := Lib.hid hv; clear hv
    go_wp2_with (fail)
    go_ret
    rw [← HV.out]
    exact ⟨rfl, O.grown⟩
  | false =>
  have hv := HV.out; rw [if_neg (by decide)] at hv; replace HV := Lib.hid hv; clear hv
  by_cases c1 : h2 ≤ h1
  · have hv := HV.out; rw [if_pos (.inl c1)] at hv; replace HV := Lib.hid hv; clear hv
    go_wp2_with (first | (refine @wpList_own_cell _ _ _ _ _ _ _ _ _ 3 _ rfl O 0 p 1 rfl _ _ rfl _ P1.out _ Tryz.underlying3 rfl rfl ?_) | (refine @wpList_own_cell _ _ _ _ _ _ _ _ _ 3 _ rfl O 1 q 1 rfl _ _ rfl _ Q1.out _ Tryz.underlying3 rfl rfl ?_))
    go_ret
    rw [← HV.out]
    exact ⟨rfl, O.grown⟩
  by_cases c2 : t2 ≤ t1
  · have hv := HV.out; rw [if_pos (.inr c2)] at hv; replace HV := Lib.hid hv; clear hv
    have d1 : decide (h2 ≤ h1) = false := decide_eq_false c1
    have d2 : decide (t2 ≤ t1) = true := decide_eq_true c2
    have C1 := Lib.hid c1
    clear c1 c2
    go_wp2_with (first | (refine @wpList_own_cell _ _ _ _ _ _ _ _ _ 3 _ rfl O 0 p 2 rfl _ _ rfl _ P2.out _ Tryz.underlying3 rfl rfl ?_) | (refine @wpList_own_cell _ _ _ _ _ _ _ _ _ 3 _ rfl O 0 p 1 rfl _ _ rfl _ P1.out _ Tryz.underlying3 rfl rfl ?_) | (refine @wpList_own_cell _ _ _ _ _ _ _ _ _ 3 _ rfl O 1 q 2 rfl _ _ rfl _ Q2.out _ Tryz.underlying3 rfl rfl ?_) | (refine @wpList_own_cell _ _ _ _ _ _ _ _ _ 3 _ rfl O 1 q 1 rfl _ _ rfl _ Q1.out _ Tryz.underlying3 rfl rfl ?_))
    go_ret
    rw [← HV.out]
    exact ⟨rfl, O.grown⟩
  have hv := HV.out; rw [if_neg (fun h => h.elim c1 c2)] at hv; replace HV := Lib.hid hv; clear hv
  have d1 : decide (h2 ≤ h1) = false := decide_eq_false c1
  have d2 : decide (t2 ≤ t1) = false := decide_eq_false c2
  have C1 := Lib.hid c1
  clear c1 c2
  obtain ⟨z, hz⟩ := HS.out rfl
  have hgt := HG.out
  rw [hz] at hgt
  have hgt : (FloatKind.f64.format.order z o.drift == some Ordering.gt) = gt := hgt
  have hsub := fun w => run_float_arith (P := Tryz.prog) w .sub 41 .f64 (floatOfInt .f64 t2) now z hz
  clear hz
  cases gt with
  | true =>
    have hv := HV.out; rw [if_pos rfl] at hv; replace HV := Lib.hid hv; clear hv
    go_wp2_with (first | (refine @wpList_own_cell _ _ _ _ _ _ _ _ _ 3 _ rfl O 0 p 2 rfl _ _ rfl _ P2.out _ Tryz.underlying3 rfl rfl ?_) | (refine @wpList_own_cell _ _ _ _ _ _ _ _ _ 3 _ rfl O 0 p 1 rfl _ _ rfl _ P1.out _ Tryz.underlying3 rfl rfl ?_) | (refine @wpList_own_cell _ _ _ _ _ _ _ _ _ 3 _ rfl O 1 q 2 rfl _ _ rfl _ Q2.out _ Tryz.underlying3 rfl rfl ?_) | (refine @wpList_own_cell _ _ _ _ _ _ _ _ _ 3 _ rfl O 1 q 1 rfl _ _ rfl _ Q1.out _ Tryz.underlying3 rfl rfl ?_) | (refine @wpList_own_cell _ _ _ _ _ _ _ _ _ 41 _ rfl O 2 bo 2 rfl _ _ rfl _ rfl _ Tryz.underlying41 rfl rfl ?_))
    go_ret
    rw [← HV.out]
    exact ⟨rfl, O.grown⟩
  | false =>
  have hv := HV.out; rw [if_neg (by decide)] at hv; replace HV := Lib.hid hv; clear hv
  go_wp2_with (first | (refine @wpList_own_whole _ _ _ _ _ _ _ _ _ 31 _ rfl O 3 bY rfl y.cells _ rfl _ Tryz.underlying31 rfl (sizeLt y HY.out) rfl ?_) | (refine @wpList_own_cell _ _ _ _ _ _ _ _ _ 3 _ rfl O 0 p 2 rfl _ _ rfl _ P2.out _ Tryz.underlying3 rfl rfl ?_) | (refine @wpList_own_cell _ _ _ _ _ _ _ _ _ 3 _ rfl O 0 p 1 rfl _ _ rfl _ P1.out _ Tryz.underlying3 rfl rfl ?_) | (refine @wpList_own_cell _ _ _ _ _ _ _ _ _ 9 _ rfl O 0 p 0 rfl _ _ rfl _ P0.out _ Tryz.underlying9 rfl rfl ?_) | (refine @wpList_own_cell _ _ _ _ _ _ _ _ _ 3 _ rfl O 1 q 2 rfl _ _ rfl _ Q2.out _ Tryz.underlying3 rfl rfl ?_) | (refine @wpList_own_cell _ _ _ _ _ _ _ _ _ 3 _ rfl O 1 q 1 rfl _ _ rfl _ Q1.out _ Tryz.underlying3 rfl rfl ?_) | (refine @wpList_own_cell _ _ _ _ _ _ _ _ _ 41 _ rfl O 2 bo 2 rfl _ _ rfl _ rfl _ Tryz.underlying41 rfl rfl ?_))
  refine (CS.out _ O.grown).mono ?_
  rintro e w ⟨rfl, g⟩
  replace O := O.call g
  clear g hsub hgt
  by_cases c3 : s = 0
  · subst c3
    have hv := HV.out; rw [if_neg (fun h => h rfl)] at hv; replace HV := Lib.hid hv; clear hv
    have hw := IntWalk.i64_in (h2 - 1) (by have := HHa.out.1; have := HHb.out.2; have := C1.out; omega)
    by_cases c4 : h2 - 1 = h1
    · have hv := HV.out; rw [if_pos c4] at hv; replace HV := Lib.hid hv; clear hv
      have d4 : (h2 - 1 == h1) = true := by simpa using c4
      clear c4
      go_wp2_with (first | (refine @wpList_own_whole _ _ _ _ _ _ _ _ _ 31 _ rfl O 3 bY rfl y.cells _ rfl _ Tryz.underlying31 rfl (sizeLt y HY.out) rfl ?_) | (refine @wpList_own_whole _ _ _ _ _ _ _ _ _ 31 _ rfl O 4 bx rfl x.cells _ rfl _ Tryz.underlying31 rfl (sizeLt x HX.out) rfl ?_) | (refine @wpList_own_cell _ _ _ _ _ _ _ _ _ 3 _ rfl O 0 p 1 rfl _ _ rfl _ P1.out _ Tryz.underlying3 rfl rfl ?_) | (refine @wpList_own_cell _ _ _ _ _ _ _ _ _ 3 _ rfl O 1 q 1 rfl _ _ rfl _ Q1.out _ Tryz.underlying3 rfl rfl ?_))
      refine (CX.out _ O.grown).mono ?_
      rintro e w ⟨rfl, g⟩
      replace O := O.call g
      clear g
      go_wp2_with (fail)
      go_ret
      rw [← HV.out]
      exact ⟨rfl, O.grown⟩
    · have hv := HV.out; rw [if_neg c4] at hv; replace HV := Lib.hid hv; clear hv
      have d4 : (h2 - 1 == h1) = false := by simpa using c4
      clear c4
      go_wp2_with (first | (refine @wpList_own_whole _ _ _ _ _ _ _ _ _ 43 _ rfl O 2 bo rfl o.cells _ rfl _ Tryz.underlying43 rfl sizeOpt rfl ?_) | (refine @wpList_own_whole _ _ _ _ _ _ _ _ _ 31 _ rfl O 3 bY rfl y.cells _ rfl _ Tryz.underlying31 rfl (sizeLt y HY.out) rfl ?_) | (refine @wpList_own_whole _ _ _ _ _ _ _ _ _ 31 _ rfl O 4 bx rfl x.cells _ rfl _ Tryz.underlying31 rfl (sizeLt x HX.out) rfl ?_) | (refine @wpList_own_cell _ _ _ _ _ _ _ _ _ 3 _ rfl O 0 p 1 rfl _ _ rfl _ P1.out _ Tryz.underlying3 rfl rfl ?_) | (refine @wpList_own_cell _ _ _ _ _ _ _ _ _ 3 _ rfl O 1 q 1 rfl _ _ rfl _ Q1.out _ Tryz.underlying3 rfl rfl ?_))
      refine (CW.out _ O.grown).mono ?_
      rintro e w ⟨rfl, g⟩
      replace O := O.call g
      clear g
      go_wp2_with (fail)
      go_ret
      rw [← HV.out]
      exact ⟨rfl, O.grown⟩
  · have hv := HV.out; rw [if_pos c3] at hv; replace HV := Lib.hid hv; clear hv
    have d3 : (s != 0) = true := by simpa using c3
    clear c3
    go_wp2_with (fail)
    go_ret
    rw [← HV.out]
    exact ⟨rfl, O.grown⟩

end Go.Proofs.YtbhghlendbcejaaGreatDoor
