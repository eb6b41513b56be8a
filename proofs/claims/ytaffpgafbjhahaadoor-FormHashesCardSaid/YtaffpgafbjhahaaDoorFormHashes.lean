/- Walk: nunciolaw06.FormHashes. -/
import Derived.Test.YtaffpgafbjhahaaDoorHsh
import Derived.Test.YtaffpgafbjhahaaDoorSame
import Derived.Test.YtaffpgafbjhahaaDoorSameP
import Derived.Test.YtaffpgafbjhahaaDoorBack
namespace Go.Proofs.YtaffpgafbjhahaaDoor
open Go.RowKit
set_option maxRecDepth 100000

theorem HeaderD.eq_iff (v u : HeaderD) (hv : v.wf) (hu : u.wf) : VEq v.cells u.cells = true ↔ v = u := by
  refine ⟨fun h => ?_, fun h => h ▸ VEq_header v⟩
  unfold HeaderD.cells at h
  rw [VEq.append (by simp [Lib.byteCells_length, hv.last, hu.last, hv.set, hu.set, hv.next, hu.next, hv.data, hu.data]), VEq.append (by simp [Lib.byteCells_length, hv.last, hu.last, hv.set, hu.set, hv.next, hu.next]), VEq.append (by simp [Lib.byteCells_length, hv.last, hu.last, hv.set, hu.set]),
    VEq.append (by simp [Lib.byteCells_length, hv.last, hu.last]), VEq.append (by simp), VEq.bytes, VEq.bytes, VEq.bytes, VEq.bytes, VEq.bytes] at h
  simp only [VEq, KEq, Bool.and_true, Bool.and_eq_true, beq_iff_eq] at h
  obtain ⟨⟨⟨⟨⟨⟨h1, h2, h3⟩, h4⟩, h5⟩, h6⟩, h7⟩, h8⟩ := h
  have h1 := ba_eq h1
  cases v; cases u
  simp_all
theorem encHeader_inj {a b : HeaderD} (va : a.wf) (vb : b.wf) (oa : okHeader a = true) (ob : okHeader b = true) (h : encHeader a = encHeader b) : a = b := by
  have e : ∀ d : HeaderD, encHeader d = be64 2 ++ (textL d.chain ++ (be64 d.height ++ (be64 d.time ++ (d.last ++ (d.set ++ (d.next ++ (d.data ++ (d.app ++ [])))))))) := fun d => by simp [encHeader]
  rw [e, e] at h
  have h' := List.append_cancel_left h
  have h1 := rdHeader_back a va oa []
  have h2 := rdHeader_back b vb ob []
  rw [h', h2] at h1
  exact (Prod.mk.inj h1).1.symm
theorem encSet_inj {a b : List ValD} (va : ∀ d ∈ a, d.wf) (vb : ∀ d ∈ b, d.wf) (oa : okSet a = true) (ob : okSet b = true) (h : encSet a = encSet b) : a = b := by
  have e : ∀ d : List ValD, encSet d = be64 3 ++ (be64 d.length ++ (encVals d ++ [])) := fun d => by simp [encSet]
  rw [e, e] at h
  have h' := List.append_cancel_left h
  have h1 := rdSet_back a va (by simpa [okSet] using oa) []
  have h2 := rdSet_back b vb (by simpa [okSet] using ob) []
  rw [h', h2] at h1
  exact (Prod.mk.inj h1).1.symm
theorem sameSet_iff (a b : List ValD) : sameL ValD.cells a b = true ↔ a = b := by
  constructor
  · revert b
    induction a with
    | nil => intro b h; cases b with
      | nil => rfl
      | cons y ys => simp [sameL] at h
    | cons x xs ih => intro b h; cases b with
      | nil => simp [sameL] at h
      | cons y ys =>
        unfold sameL at h
        rw [List.flatMap_cons, List.flatMap_cons, VEq.append (show x.cells.length = y.cells.length from rfl)] at h
        simp only [List.length_cons, Bool.and_eq_true, beq_iff_eq, Nat.add_right_cancel_iff] at h
        obtain ⟨h1, h2, h3⟩ := h
        have := ih ys (by unfold sameL; simp [h1, h3])
        subst this
        simp only [ValD.cells, VEq, KEq, Bool.and_true, Bool.and_eq_true, beq_iff_eq] at h2
        cases x; cases y; simp_all
  · rintro rfl; exact sameL_refl_val a
/-- two hashes part from what they are of -/
theorem law_h {a b : HeaderD} (va : a.wf) (vb : b.wf) (oa : okHeader a = true) (ob : okHeader b = true) (x y : List UInt8) (hx : hshL 2 true (encHeader a) = x) (hy : hshL 2 true (encHeader b) = y)
    (h : (x == y) ≠ VEq a.cells b.cells) : x = y ∧ (encHeader a == encHeader b) = false := by
  subst hx hy
  by_cases e : a = b
  · subst e; rw [VEq_header] at h; simp at h
  · have hn : VEq a.cells b.cells = false := by cases hq : VEq a.cells b.cells with
      | false => rfl
      | true => exact absurd ((HeaderD.eq_iff a b va vb).1 hq) e
    rw [hn] at h
    refine ⟨by simpa using h, ?_⟩
    cases hq : encHeader a == encHeader b with
    | false => rfl
    | true => exact absurd (encHeader_inj va vb oa ob (by simpa using hq)) e
theorem law_s {a b : List ValD} (va : ∀ d ∈ a, d.wf) (vb : ∀ d ∈ b, d.wf) (oa : okSet a = true) (ob : okSet b = true) (x y : List UInt8) (hx : hshL 3 true (encSet a) = x) (hy : hshL 3 true (encSet b) = y)
    (h : (x == y) ≠ sameL ValD.cells a b) : x = y ∧ (encSet a == encSet b) = false := by
  subst hx hy
  by_cases e : a = b
  · subst e; rw [sameL_refl_val] at h; simp at h
  · have hn : sameL ValD.cells a b = false := by cases hq : sameL ValD.cells a b with
      | false => rfl
      | true => exact absurd ((sameSet_iff a b).1 hq) e
    rw [hn] at h
    refine ⟨by simpa using h, ?_⟩
    cases hq : encSet a == encSet b with
    | false => rfl
    | true => exact absurd (encSet_inj va vb oa ob (by simpa using hq)) e

/-- '==' in a region that draws its order and only reads -/
theorem quiet_eql_flat {P : Program} {ops : Array Oper} {rest : List Oper} {o : Oper} {a : Act} {w : World} {Q : Act → Prop} (hgd : Region.wanted o (yielded ops a.tmps) = true) (t u : TypeId) (x y : Operand) (ho : o.op = .binOp .eql t x y u)
    (xs ys ks : List Value) (hx : a.eval x = .agg xs.toArray) (hy : a.eval y = .agg ys.toArray) (h : flat P 20 t = some ks) (fx : Fits ks xs = true) (fy : Fits ks ys = true)
    (hd : (P.underlying t).map (fun d => match d with | .struct _ | .array _ _ => true | _ => false) = some true) (hm : P.eqGuardType P.depth t = false)
    (hk : wpQuiet P ops (fun w' => ∃ n, w' = w.drewN n) Q rest (a.put o.dst (.bool (VEq xs ys)))) : wpQuiet P ops (fun w' => ∃ n, w' = w.drewN n) Q (o :: rest) a := by
  unfold wpQuiet
  rw [if_pos hgd]
  refine ⟨.bool (VEq xs ys), fun w' hw => ?_, hk⟩
  unfold Oper.quietAt execOp
  simp only [ho, hx, hy, Sem.run_bind, Sem.run_pure, Result.andThen_ok, run_eqGuard_agg w' .eql t x y xs.toArray ys.toArray hm, (run_eql_flat h xs ys w' fx fy hd).1]
  exact ⟨rfl, rfl⟩

theorem two_rows {w : World} {g : Nat} {xs ys : List Value} {T : TypeId} (h : Blk w g (xs ++ ys) T) : RowAt w g 0 xs ∧ RowAt w g xs.length ys := by
  constructor
  · have := RowAt.sub (xs := []) (ys := xs) (zs := ys) (by simpa using h.row); exact this
  · have := RowAt.sub (xs := xs) (ys := ys) (zs := []) (by simpa using h.row); rwa [Nat.zero_add] at this

set_option maxHeartbeats 4000000 in
theorem FormHashes_any (d0 d1 : HeaderD) (s0 s1 : List ValD) (v0 v1 : Value) (w : World) (h0 : d0.wf) (h1 : d1.wf) (w0 : ∀ d ∈ s0, d.wf) (w1 : ∀ d ∈ s1, d.wf)
    (r0 : RdS w.heap.size w v0 s0.length 2 (setCells s0)) (r1 : RdS w.heap.size w v1 s1.length 2 (setCells s1)) (hR : RowAt w 1 0 (wCells rootsL)) :
    Calls Tryd.prog 7 #[.agg (d0.cells ++ d1.cells).toArray, .agg #[v0, v1]] w (LawTrue w) := by
  obtain ⟨a0, c0, rfl⟩ := r0.shape
  obtain ⟨a1, c1, rfl⟩ := r1.shape
  have l0 : d0.cells.length = 163 := d0.cells_length h0
  have l1 : d1.cells.length = 163 := d1.cells_length h1
  have H0 := Lib.hid h0; have H1 := Lib.hid h1; have W0 := Lib.hid w0; have W1 := Lib.hid w1; have R0 := Lib.hid r0; have R1 := Lib.hid r1; have HR := Lib.hid hR
  clear h0 h1 w0 w1 r0 r1 hR
  go_enter Tryd.func7, Tryd.ntmps7
  go_wp2_with (refine wpList_box_as rfl 77 _ rfl (d0.cells ++ d1.cells) (by simp [Act.eval]) ?_)
  intro w1 b1 g1 k1
  go_wp2_with (refine wpList_box_as rfl 78 _ rfl [.slice a0 s0.length c0, .slice a1 s1.length c1] rfl ?_)
  intro w2 b2 g2 k2
  obtain ⟨hb, hhb⟩ : ∃ m, w.heap.size = m := ⟨_, rfl⟩
  rw [hhb] at b1 b2 k1 k2 ⊢
  have P2 := Lib.hid (b1.grown g2 (by simp)); have S2 := Lib.hid b2; have G2 := Lib.hid (Lib.grownBy_trans g1 g2); have Hhb := Lib.hid hhb
  have K2 := Lib.hid k2
  have e0 := b2.row 0 _ rfl
  have e1 := b2.row 1 _ rfl
  simp only [Nat.zero_add] at e0 e1
  clear b1 b2 g1 g2 k1 k2 hhb
  by_cases h70 : 70 < s0.length
  · have h70i : (70 : Int) < (s0.length : Int) := by omega
    go_wp2_with fail
    refine (alive_any w2).mono ?_
    rintro e w3 ⟨rfl, hb3⟩
    go_wp2_with fail
    go_ret
    exact ⟨rfl, below_of_grown (Lib.grownBy_trans G2.out (below_grown hb3))⟩
  have h70i : (s0.length : Int) ≤ 70 := by omega
  by_cases h71 : 70 < s1.length
  · have h71i : (70 : Int) < (s1.length : Int) := by omega
    go_wp2_with fail
    refine (alive_any w2).mono ?_
    rintro e w3 ⟨rfl, hb3⟩
    go_wp2_with fail
    go_ret
    exact ⟨rfl, below_of_grown (Lib.grownBy_trans G2.out (below_grown hb3))⟩
  have h71i : (s1.length : Int) ≤ 70 := by omega
  have q0 := Lib.hid (two_rows P2.out).1
  go_wp2_with (refine wpList_load_part rfl 57 _ rfl hb 0 rfl d0.cells _ q0.out Tryd.underlying57 rfl (sizeHeader _ l0) ?_)
  clear q0
  refine (HeaderHash_any d0 w2 H0.out (HR.out.grown G2.out (by simp))).mono ?_
  rintro e w3 ⟨rfl, g3⟩
  obtain ⟨oa, hoa⟩ : ∃ o, okHeader d0 = o := ⟨_, rfl⟩
  obtain ⟨x, hx⟩ : ∃ x, hshL 2 oa (encHeader d0) = x := ⟨_, rfl⟩
  have hxl : x.length = 32 := hx ▸ hshL_len _ _ _
  have hxc : (Lib.byteCells x).length = 32 := by rw [Lib.byteCells_length]; exact hxl
  obtain ⟨ca, hca⟩ : ∃ c : Int, (if oa then 0 else 61) = c := ⟨_, rfl⟩
  rw [hoa, hx, hca]
  have Hoa := Lib.hid hoa; have Hx := Lib.hid hx; have Hca := Lib.hid hca
  have P3 := Lib.hid (P2.out.grown g3 (by simp)); have S3 := Lib.hid (S2.out.grown g3 (by simp)); have G3 := Lib.hid (Lib.grownBy_trans G2.out g3)
  clear g3 hoa hx hca P2 S2 G2 e0 e1
  go_wp2_with (refine wpList_alloc_as rfl 24 rfl ZH ZH_info ?_)
  intro w4 k1 k2 k3
  have X4 := Lib.hid k1; have P4 := Lib.hid (P3.out.grown k2 (by simp)); have S4 := Lib.hid (S3.out.grown k2 (by simp)); have G4 := Lib.hid (Lib.grownBy_trans G3.out k2)
  have hsl := S3.out.lt
  obtain ⟨xb, hxb⟩ : ∃ m, w3.heap.size = m := ⟨_, rfl⟩
  rw [hxb] at X4 hsl ⊢
  clear k1 k2 k3 hxb P3 S3 G3
  go_wp2_with (refine wpList_store_whole rfl 24 _ _ rfl xb rfl (Lib.byteCells x) ZH 24 rfl X4.out (by rw [hxc]; rfl) (Lib.byteCells_one _) (sizeH _ hxc) ?_)
  intro w5 g5 k5 b5
  have X5 := Lib.hid b5; have P5 := Lib.hid (P4.out.grown g5 (by simp; omega)); have S5 := Lib.hid (S4.out.grown g5 (by simp; omega)); have G5 := Lib.hid (grown_new G4.out g5 (by rw [Hhb.out]; omega))
  clear g5 k5 b5 X4 P4 S4 G4
  have q1 := Lib.hid (two_rows P5.out).2
  rw [l0] at q1
  go_wp2_with (refine wpList_load_part rfl 57 _ rfl hb 163 rfl d1.cells _ q1.out Tryd.underlying57 rfl (sizeHeader _ l1) ?_)
  clear q1
  refine (HeaderHash_any d1 w5 H1.out (HR.out.grown G5.out (by simp))).mono ?_
  rintro e w6 ⟨rfl, g3⟩
  obtain ⟨ob, hob⟩ : ∃ o, okHeader d1 = o := ⟨_, rfl⟩
  obtain ⟨y, hy⟩ : ∃ y, hshL 2 ob (encHeader d1) = y := ⟨_, rfl⟩
  have hyl : y.length = 32 := hy ▸ hshL_len _ _ _
  have hyc : (Lib.byteCells y).length = 32 := by rw [Lib.byteCells_length]; exact hyl
  obtain ⟨cb, hcb⟩ : ∃ c : Int, (if ob then 0 else 61) = c := ⟨_, rfl⟩
  rw [hob, hy, hcb]
  have Hob := Lib.hid hob; have Hy := Lib.hid hy; have Hcb := Lib.hid hcb
  have P6 := Lib.hid (P5.out.grown g3 (by simp)); have S6 := Lib.hid (S5.out.grown g3 (by simp)); have X6 := Lib.hid (X5.out.grown g3 (by simp)); have G6 := Lib.hid (Lib.grownBy_trans G5.out g3)
  clear g3 hob hy hcb P5 S5 X5 G5
  go_wp2_with (refine wpList_alloc_as rfl 24 rfl ZH ZH_info ?_)
  intro w7 k1 k2 k3
  have Y7 := Lib.hid k1; have P7 := Lib.hid (P6.out.grown k2 (by simp)); have S7 := Lib.hid (S6.out.grown k2 (by simp)); have X7 := Lib.hid (X6.out.grown k2 (by simp)); have G7 := Lib.hid (Lib.grownBy_trans G6.out k2)
  have hxl2 := X6.out.lt
  obtain ⟨yb, hyb⟩ : ∃ m, w6.heap.size = m := ⟨_, rfl⟩
  rw [hyb] at Y7 hxl2 ⊢
  clear k1 k2 k3 hyb P6 S6 X6 G6
  go_wp2_with (refine wpList_store_whole rfl 24 _ _ rfl yb rfl (Lib.byteCells y) ZH 24 rfl Y7.out (by rw [hyc]; rfl) (Lib.byteCells_one _) (sizeH _ hyc) ?_)
  intro w8 g5 k5 b5
  have Y8 := Lib.hid b5; have X8 := Lib.hid (X7.out.grown g5 (by simp; omega)); have P8 := Lib.hid (P7.out.grown g5 (by simp; omega)); have S8 := Lib.hid (S7.out.grown g5 (by simp; omega)); have G8 := Lib.hid (grown_new G7.out g5 (by rw [Hhb.out]; omega))
  clear g5 k5 b5 Y7 X7 P7 S7 G7
  go_upto_region 5 with (fail)
  go_cut [59] from 20 to 59 (fun s59 wx => s59 = .bool (oa && ob && ((x == y) != VEq d0.cells d1.cells)) ∧ w8.grownBy wx none)
  case first =>
    have Q0 := Lib.hid (two_rows P8.out).1
    have Q1 := Lib.hid (two_rows P8.out).2
    rw [l0] at Q1
    cases oa with
    | false =>
      obtain rfl : ca = 61 := Hca.out.symm
      clear P8 S8 G8
      go_wp2_with fail
      go_quiet (fail)
      go_wp2_with fail
      go_meet
      case rel => exact ⟨rfl, grown_drewN ⟨rfl, rfl, rfl, Nat.le_refl _, fun _ _ _ => rfl⟩ _⟩
    | true =>
      obtain rfl : ca = 0 := Hca.out.symm
      cases ob with
      | false =>
        obtain rfl : cb = 61 := Hcb.out.symm
        clear P8 S8 G8
        go_wp2_with fail
        go_quiet (fail)
        go_wp2_with fail
        go_meet
        case rel => exact ⟨rfl, grown_drewN ⟨rfl, rfl, rfl, Nat.le_refl _, fun _ _ _ => rfl⟩ _⟩
      | true =>
        obtain rfl : cb = 0 := Hcb.out.symm
        clear P8 S8 G8
        go_wp2_with fail
        refine wp_region_quiet_lit (by kernel_rfl) (by kernel_rfl) ?_
        iterate 7 (quiet_step (fail))
        refine quiet_load_part rfl 24 _ rfl xb 0 rfl (Lib.byteCells x) _ X8.out.row Tryd.underlying24 rfl (sizeH _ hxc) ?_
        refine quiet_load_part rfl 24 _ rfl yb 0 rfl (Lib.byteCells y) _ Y8.out.row Tryd.underlying24 rfl (sizeH _ hyc) ?_
        refine quiet_eql_flat rfl 24 _ _ _ rfl (Lib.byteCells x) (Lib.byteCells y) _ rfl rfl hash_flat (hash_fits x hxl) (hash_fits y hyl) rfl (by kernel_rfl) ?_
        quiet_step (fail)
        refine quiet_load_part rfl 57 _ rfl hb 0 rfl d0.cells _ Q0.out Tryd.underlying57 rfl (sizeHeader _ l0) ?_
        quiet_step (fail)
        refine quiet_load_part rfl 57 _ rfl hb 163 rfl d1.cells _ Q1.out Tryd.underlying57 rfl (sizeHeader _ l1) ?_
        refine quiet_eql_flat rfl 57 _ _ _ rfl d0.cells d1.cells kHeader rfl rfl header_flat (d0.fits H0.out) (d1.fits H1.out) rfl (by kernel_rfl) ?_
        rw [VEq.bytes]
        iterate 2 (quiet_step (fail))
        refine wpQuiet_nil ?_
        intro _ hw'
        obtain ⟨nq, hw''⟩ := hw'
        subst hw''
        go_wp2_with fail
        go_meet
        case rel =>
          refine ⟨?_, grown_drewN ⟨rfl, rfl, rfl, Nat.le_refl _, fun _ _ _ => rfl⟩ _⟩
          exact congrArg Value.bool (by cases (x == y) <;> cases VEq d0.cells d1.cells <;> rfl)
  case rest =>
    obtain ⟨rfl, g9⟩ := hcut
    have X9 := Lib.hid (X8.out.grown g9 (by simp)); have Y9 := Lib.hid (Y8.out.grown g9 (by simp)); have P9 := Lib.hid (P8.out.grown g9 (by simp)); have S9 := Lib.hid (S8.out.grown g9 (by simp)); have G9 := Lib.hid (Lib.grownBy_trans G8.out g9)
    clear g9 X8 Y8 P8 S8 G8
    cases ht : (oa && ob && ((x == y) != VEq d0.cells d1.cells)) with
    | true =>
      simp only [Bool.and_eq_true] at ht
      obtain ⟨⟨rfl, rfl⟩, ht⟩ := ht
      obtain ⟨rfl, hne⟩ := law_h H0.out H1.out Hoa.out Hob.out x y Hx.out Hy.out (by simpa using ht)
      have Hne := Lib.hid hne
      clear hne ht
      have Q0 := Lib.hid (two_rows P9.out).1
      go_wp2_with (refine wpList_load_part rfl 57 _ rfl hb 0 rfl d0.cells _ Q0.out Tryd.underlying57 rfl (sizeHeader _ l0) ?_)
      clear Q0
      refine (EncodeHeader_any d0 wc H0.out).mono ?_
      intro e w10 h10
      obtain ⟨a, n, k, c, rfl, h4, g4⟩ := EncW.of h10
      rw [Hoa.out] at h4
      obtain ⟨_, rfl, rb⟩ := h4.resolve_right (by rintro ⟨h, _⟩; cases h)
      have RA := Lib.hid rb; have X10 := Lib.hid (X9.out.grown g4 (by simp)); have Y10 := Lib.hid (Y9.out.grown g4 (by simp)); have P10 := Lib.hid (P9.out.grown g4 (by simp)); have G10 := Lib.hid (Lib.grownBy_trans G9.out g4)
      clear h10 h4 g4 rb X9 Y9 P9 S9 G9
      have Q1 := Lib.hid (two_rows P10.out).2
      rw [l0] at Q1
      go_wp2_with (refine wpList_load_part rfl 57 _ rfl hb 163 rfl d1.cells _ Q1.out Tryd.underlying57 rfl (sizeHeader _ l1) ?_)
      clear Q1
      refine (EncodeHeader_any d1 w10 H1.out).mono ?_
      intro e w11 h10
      obtain ⟨a', n', k', c', rfl, h4, g4⟩ := EncW.of h10
      rw [Hob.out] at h4
      obtain ⟨_, rfl, rb⟩ := h4.resolve_right (by rintro ⟨h, _⟩; cases h)
      have RB := Lib.hid rb; have RA' := Lib.hid (RA.out.grown g4); have X11 := Lib.hid (X10.out.grown g4 (by simp)); have Y11 := Lib.hid (Y10.out.grown g4 (by simp)); have G11 := Lib.hid (Lib.grownBy_trans G10.out g4)
      clear h10 h4 g4 rb X10 Y10 P10 G10 RA
      have hvv : VEq (Lib.byteCells x) (Lib.byteCells x) = true := by rw [VEq.bytes]; simp
      go_wp2_with (first
        | (refine wpList_load_part rfl 24 _ rfl xb 0 rfl (Lib.byteCells x) _ X11.out.row Tryd.underlying24 rfl (sizeH _ hxc) ?_)
        | (refine wpList_load_part rfl 24 _ rfl yb 0 rfl (Lib.byteCells x) _ Y11.out.row Tryd.underlying24 rfl (sizeH _ hxc) ?_)
        | (refine wpList_eql_flat rfl 24 _ _ _ rfl (Lib.byteCells x) (Lib.byteCells x) _ rfl rfl hash_flat (hash_fits x hxl) (hash_fits x hxl) rfl (by kernel_rfl) ?_; rw [hvv]))
      refine (Same_any _ _ _ _ w11 RA'.out RB.out).mono ?_
      rintro e w' ⟨rfl, rfl⟩
      rw [Hne.out]
      go_wp2_with fail
      go_ret
      exact ⟨rfl, below_of_grown G11.out⟩
    | false =>
      clear ht P9 X9 Y9 Hx Hy Hca Hcb Hoa Hob
      have e0 := S9.out.row 0 _ rfl
      have e1 := S9.out.row 1 _ rfl
      simp only [Nat.zero_add] at e0 e1
      go_wp2_with fail
      refine (SetHash_any _ s0 wc W0.out ((R0.out.grown G9.out).mono G9.out.size) (HR.out.grown G9.out (by simp))).mono ?_
      rintro e w10 ⟨rfl, g3⟩
      obtain ⟨pa, hpa⟩ : ∃ o, okSet s0 = o := ⟨_, rfl⟩
      obtain ⟨z, hz⟩ : ∃ z, hshL 3 pa (encSet s0) = z := ⟨_, rfl⟩
      have hzl : z.length = 32 := hz ▸ hshL_len _ _ _
      have hzc : (Lib.byteCells z).length = 32 := by rw [Lib.byteCells_length]; exact hzl
      obtain ⟨ka, hka⟩ : ∃ c : Int, (if pa then 0 else 61) = c := ⟨_, rfl⟩
      rw [hpa, hz, hka]
      have Hpa := Lib.hid hpa; have Hz := Lib.hid hz; have Hka := Lib.hid hka
      have S10 := Lib.hid (S9.out.grown g3 (by simp)); have G10 := Lib.hid (Lib.grownBy_trans G9.out g3)
      clear g3 hpa hz hka S9 G9 e0 e1
      go_wp2_with (refine wpList_alloc_as rfl 24 rfl ZH ZH_info ?_)
      intro w11 k1 k2 k3
      have X11 := Lib.hid k1; have S11 := Lib.hid (S10.out.grown k2 (by simp)); have G11 := Lib.hid (Lib.grownBy_trans G10.out k2)
      have hs10 := S10.out.lt
      obtain ⟨zb, hzb⟩ : ∃ m, w10.heap.size = m := ⟨_, rfl⟩
      rw [hzb] at X11 hs10 ⊢
      clear k1 k2 k3 hzb S10 G10
      go_wp2_with (refine wpList_store_whole rfl 24 _ _ rfl zb rfl (Lib.byteCells z) ZH 24 rfl X11.out (by rw [hzc]; rfl) (Lib.byteCells_one _) (sizeH _ hzc) ?_)
      intro w12 g5 k5 b5
      have X12 := Lib.hid b5; have S12 := Lib.hid (S11.out.grown g5 (by simp; omega)); have G12 := Lib.hid (grown_new G11.out g5 (by rw [Hhb.out]; omega))
      clear g5 k5 b5 X11 S11 G11
      have e0 := S12.out.row 0 _ rfl
      have e1 := S12.out.row 1 _ rfl
      simp only [Nat.zero_add] at e0 e1
      go_wp2_with fail
      refine (SetHash_any _ s1 w12 W1.out ((R1.out.grown G12.out).mono G12.out.size) (HR.out.grown G12.out (by simp))).mono ?_
      rintro e w13 ⟨rfl, g3⟩
      obtain ⟨pb, hpb⟩ : ∃ o, okSet s1 = o := ⟨_, rfl⟩
      obtain ⟨u, hu⟩ : ∃ u, hshL 3 pb (encSet s1) = u := ⟨_, rfl⟩
      have hul : u.length = 32 := hu ▸ hshL_len _ _ _
      have huc : (Lib.byteCells u).length = 32 := by rw [Lib.byteCells_length]; exact hul
      obtain ⟨kb, hkb⟩ : ∃ c : Int, (if pb then 0 else 61) = c := ⟨_, rfl⟩
      rw [hpb, hu, hkb]
      have Hpb := Lib.hid hpb; have Hu := Lib.hid hu; have Hkb := Lib.hid hkb
      have S13 := Lib.hid (S12.out.grown g3 (by simp)); have X13 := Lib.hid (X12.out.grown g3 (by simp)); have G13 := Lib.hid (Lib.grownBy_trans G12.out g3)
      clear g3 hpb hu hkb S12 X12 G12 e0 e1
      go_wp2_with (refine wpList_alloc_as rfl 24 rfl ZH ZH_info ?_)
      intro w14 k1 k2 k3
      have Y14 := Lib.hid k1; have S14 := Lib.hid (S13.out.grown k2 (by simp)); have X14 := Lib.hid (X13.out.grown k2 (by simp)); have G14 := Lib.hid (Lib.grownBy_trans G13.out k2)
      have hs13 := X13.out.lt
      obtain ⟨ub, hub⟩ : ∃ m, w13.heap.size = m := ⟨_, rfl⟩
      rw [hub] at Y14 hs13 ⊢
      clear k1 k2 k3 hub S13 X13 G13
      go_wp2_with (refine wpList_store_whole rfl 24 _ _ rfl ub rfl (Lib.byteCells u) ZH 24 rfl Y14.out (by rw [huc]; rfl) (Lib.byteCells_one _) (sizeH _ huc) ?_)
      intro w15 g5 k5 b5
      have Y15 := Lib.hid b5; have X15 := Lib.hid (X14.out.grown g5 (by simp; omega)); have S15 := Lib.hid (S14.out.grown g5 (by simp; omega)); have G15 := Lib.hid (grown_new G14.out g5 (by rw [Hhb.out]; omega))
      clear g5 k5 b5 X14 Y14 S14 G14
      have e0 := S15.out.row 0 _ rfl
      have e1 := S15.out.row 1 _ rfl
      simp only [Nat.zero_add] at e0 e1
      go_wp2_with fail
      refine (SameSet_any _ _ s0 s1 w15 (R0.out.grown G15.out) (R1.out.grown G15.out) G15.out.size).mono ?_
      rintro e w16 ⟨rfl, g3⟩
      have S16 := Lib.hid (S15.out.grown g3 (by simp)); have X16 := Lib.hid (X15.out.grown g3 (by simp)); have Y16 := Lib.hid (Y15.out.grown g3 (by simp)); have G16 := Lib.hid (Lib.grownBy_trans G15.out g3)
      obtain ⟨sm, hsm⟩ : ∃ b, sameL ValD.cells s0 s1 = b := ⟨_, rfl⟩
      rw [hsm]
      have Hsm := Lib.hid hsm
      clear g3 hsm S15 X15 Y15 G15 e0 e1
      go_upto_region 12 with (fail)
      go_cut [110] from 81 to 110 (fun s110 wx => s110 = .bool (pa && pb && ((z == u) != sm)) ∧ w16.grownBy wx none)
      case first =>
        cases pa with
        | false =>
          obtain rfl : ka = 61 := Hka.out.symm
          clear S16 G16
          go_wp2_with fail
          go_meet
          case rel => exact ⟨rfl, ⟨rfl, rfl, rfl, Nat.le_refl _, fun _ _ _ => rfl⟩⟩
        | true =>
          obtain rfl : ka = 0 := Hka.out.symm
          cases pb with
          | false =>
            obtain rfl : kb = 61 := Hkb.out.symm
            clear S16 G16
            go_wp2_with fail
            go_meet
            case rel => exact ⟨rfl, ⟨rfl, rfl, rfl, Nat.le_refl _, fun _ _ _ => rfl⟩⟩
          | true =>
            obtain rfl : kb = 0 := Hkb.out.symm
            clear S16 G16
            have hvv : VEq (Lib.byteCells z) (Lib.byteCells u) = (z == u) := VEq.bytes _ _
            go_wp2_with (first
              | (refine wpList_load_part rfl 24 _ rfl zb 0 rfl (Lib.byteCells z) _ X16.out.row Tryd.underlying24 rfl (sizeH _ hzc) ?_)
              | (refine wpList_load_part rfl 24 _ rfl ub 0 rfl (Lib.byteCells u) _ Y16.out.row Tryd.underlying24 rfl (sizeH _ huc) ?_)
              | (refine wpList_eql_flat rfl 24 _ _ _ rfl (Lib.byteCells z) (Lib.byteCells u) _ rfl rfl hash_flat (hash_fits z hzl) (hash_fits u hul) rfl (by kernel_rfl) ?_; rw [hvv]))
            go_meet
            case rel =>
              refine ⟨?_, ⟨rfl, rfl, rfl, Nat.le_refl _, fun _ _ _ => rfl⟩⟩
              exact congrArg Value.bool (by cases (z == u) <;> cases sm <;> rfl)
      case rest =>
        obtain ⟨rfl, g9⟩ := hcut
        have X9 := Lib.hid (X16.out.grown g9 (by simp)); have Y9 := Lib.hid (Y16.out.grown g9 (by simp)); have S9 := Lib.hid (S16.out.grown g9 (by simp)); have G9 := Lib.hid (Lib.grownBy_trans G16.out g9)
        clear g9 X16 Y16 S16 G16
        cases ht : (pa && pb && ((z == u) != sm)) with
        | true =>
          simp only [Bool.and_eq_true] at ht
          obtain ⟨⟨rfl, rfl⟩, ht⟩ := ht
          obtain ⟨rfl, hne⟩ := law_s W0.out W1.out Hpa.out Hpb.out z u Hz.out Hu.out (by rw [Hsm.out]; simpa using ht)
          have Hne := Lib.hid hne
          clear hne ht
          have e0 := S9.out.row 0 _ rfl
          simp only [Nat.zero_add] at e0
          go_wp2_with fail
          refine (EncodeSet_any _ s0 wc W0.out ((R0.out.grown G9.out).mono G9.out.size)).mono ?_
          intro e w20 h10
          obtain ⟨a, n, k, c, rfl, h4, g4⟩ := EncW.of h10
          rw [Hpa.out] at h4
          obtain ⟨_, rfl, rb⟩ := h4.resolve_right (by rintro ⟨h, _⟩; cases h)
          have RA := Lib.hid rb; have X10 := Lib.hid (X9.out.grown g4 (by simp)); have Y10 := Lib.hid (Y9.out.grown g4 (by simp)); have S10 := Lib.hid (S9.out.grown g4 (by simp)); have G10 := Lib.hid (Lib.grownBy_trans G9.out g4)
          clear h10 h4 g4 rb X9 Y9 S9 G9 e0
          have e1 := S10.out.row 1 _ rfl
          simp only [Nat.zero_add] at e1
          go_wp2_with fail
          refine (EncodeSet_any _ s1 w20 W1.out ((R1.out.grown G10.out).mono G10.out.size)).mono ?_
          intro e w21 h10
          obtain ⟨a', n', k', c', rfl, h4, g4⟩ := EncW.of h10
          rw [Hpb.out] at h4
          obtain ⟨_, rfl, rb⟩ := h4.resolve_right (by rintro ⟨h, _⟩; cases h)
          have RB := Lib.hid rb; have RA' := Lib.hid (RA.out.grown g4); have X11 := Lib.hid (X10.out.grown g4 (by simp)); have Y11 := Lib.hid (Y10.out.grown g4 (by simp)); have G11 := Lib.hid (Lib.grownBy_trans G10.out g4)
          clear h10 h4 g4 rb X10 Y10 S10 G10 RA e1
          have hvv : VEq (Lib.byteCells z) (Lib.byteCells z) = true := by rw [VEq.bytes]; simp
          go_wp2_with (first
            | (refine wpList_load_part rfl 24 _ rfl zb 0 rfl (Lib.byteCells z) _ X11.out.row Tryd.underlying24 rfl (sizeH _ hzc) ?_)
            | (refine wpList_load_part rfl 24 _ rfl ub 0 rfl (Lib.byteCells z) _ Y11.out.row Tryd.underlying24 rfl (sizeH _ hzc) ?_)
            | (refine wpList_eql_flat rfl 24 _ _ _ rfl (Lib.byteCells z) (Lib.byteCells z) _ rfl rfl hash_flat (hash_fits z hzl) (hash_fits z hzl) rfl (by kernel_rfl) ?_; rw [hvv]))
          refine (Same_any _ _ _ _ w21 RA'.out RB.out).mono ?_
          rintro e w' ⟨rfl, rfl⟩
          rw [Hne.out]
          go_wp2_with fail
          go_ret
          exact ⟨rfl, below_of_grown G11.out⟩
        | false =>
          clear ht
          go_wp2_with fail
          refine (alive_any wc).mono ?_
          rintro e w3 ⟨rfl, hb3⟩
          go_wp2_with fail
          go_ret
          exact ⟨rfl, below_of_grown (Lib.grownBy_trans G9.out (below_grown hb3))⟩

end Go.Proofs.YtaffpgafbjhahaaDoor
