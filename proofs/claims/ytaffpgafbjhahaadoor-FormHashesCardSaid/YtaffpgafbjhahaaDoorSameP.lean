/- Walk: nuncioref05.Same, of one proof twice. -/
import Derived.Test.YtaffpgafbjhahaaDoorPrf
import Derived.Test.YtaffpgafbjhahaaDoorPrf2
import Derived.Test.YtaffpgafbjhahaaDoorSame
import Derived.Deep.RegionHeld3
import Derived.Deep.CutRange
namespace Go.Proofs.YtaffpgafbjhahaaDoor
open Go.RowKit
set_option maxRecDepth 100000

theorem hash_neq_self (x : List UInt8) (hx : x.length = 32) (w : World) : (binOp .neq 24 (.agg (Lib.byteCells x).toArray) (.agg (Lib.byteCells x).toArray)).run Tryd.prog w = .ok (.bool false) w := by
  have := (run_eql_flat hash_flat (Lib.byteCells x) (Lib.byteCells x) w (hash_fits x hx) (hash_fits x hx) (by kernel_rfl)).2
  rw [VEq.bytes] at this
  simpa using this
def kEntry : List Value := [.string ⟨#[]⟩, .string ⟨#[]⟩]
theorem entry_flat : flat Tryd.prog 20 43 = some kEntry := by kernel_rfl
theorem entry_neq_self (a b : ByteArray) (w : World) : (binOp .neq 43 (.agg ([.string a, .string b] : List Value).toArray) (.agg ([.string a, .string b] : List Value).toArray)).run Tryd.prog w = .ok (.bool false) w := by
  have := (run_eql_flat entry_flat [.string a, .string b] [.string a, .string b] w rfl rfl (by kernel_rfl)).2
  rw [show VEq [Value.string a, .string b] [.string a, .string b] = true by simp [VEq, KEq]] at this
  simpa using this
theorem sizeEntry : (Tryd.prog.info? 43).map (·.size) = some 2 := by kernel_rfl
theorem RdE.at_ {B n k : Nat} {w : World} {v : Value} {cs : List Value} (h : RdE B w v n k cs) (hn : 0 < n) : ∃ g o c, v = .slice (some ⟨g, o, none⟩) n c ∧ n ≤ c ∧ c ≤ maxLen ∧ g < B ∧ RowAt w g o cs := by
  obtain ⟨ao, c, h1, h2, h3, h4, ⟨_, h5, _⟩ | ⟨g, o, e, hg, hr⟩⟩ := h
  · omega
  · subst e; exact ⟨g, o, c, h1, h2, h3, hg, hr⟩

/-- a load of an array, in a region that draws its order and only reads -/
theorem quiet_load_part {P : Program} {ops : Array Oper} {rest : List Oper} {o : Oper} {a : Act} {w : World} {Q : Act → Prop} (hgd : Region.wanted o (yielded ops a.tmps) = true) (ty : TypeId) (x : Operand) (ho : o.op = .load ty x)
    (g k : Nat) (hx : a.eval x = .pointer (some ⟨g, k, none⟩)) (vs : List Value) (d : TypeDesc) (hr : RowAt w g k vs)
    (hu : P.underlying ty = some d) (hd : (match d with | .struct _ | .array _ _ => true | _ => false) = true) (hi : (P.info? ty).map (·.size) = some vs.length)
    (h : wpQuiet P ops (fun w' => ∃ n, w' = w.drewN n) Q rest (a.put o.dst (.agg vs.toArray))) : wpQuiet P ops (fun w' => ∃ n, w' = w.drewN n) Q (o :: rest) a := by
  unfold wpQuiet
  rw [if_pos hgd]
  refine ⟨.agg vs.toArray, fun w' hw => ?_, h⟩
  obtain ⟨n, rfl⟩ := hw
  unfold Oper.quietAt execOp
  simp only [ho, hx, Instr.loadAt, Instr.sureAddr, Sem.run_bind, Sem.run_pure, Result.andThen_ok, run_loadVar_part (w.drewN n) g k ty vs d (hr.drewN n) hu hd hi]
  exact ⟨rfl, rfl⟩

set_option maxHeartbeats 4000000 in
theorem SameP_refl {B : Nat} (d : ProofD) (ca cb : List Value) (w : World) (ha : d.rep B w ca) (hb : d.rep B w cb) (hB : B ≤ w.heap.size) (wd : d.wf) :
    Calls Tryd.prog 27 #[.agg ca.toArray, .agg cb.toArray] w fun e w' => e = .returned (.bool true) ∧ w.grownBy w' none := by
  obtain ⟨sa, pa, hsa, hpa, rfl⟩ := ha
  obtain ⟨sb, pb, hsb, hpb, rfl⟩ := hb
  obtain ⟨aa, na, rfl, hca, hla, hra⟩ := hsa.slice
  obtain ⟨ab, nb, rfl, hcb, hlb, hrb⟩ := hsb.slice
  obtain ⟨W, hW, B1, B2, hg, hs⟩ := two_boxes w [.int .i64 d.size, .slice aa d.parts.length na] [.int .i64 d.size, .slice ab d.parts.length nb] 41 41
  have HW := Lib.hid hW; have H1 := Lib.hid B1; have H2 := Lib.hid B2; have Hg := Lib.hid hg
  have Ra := Lib.hid hra; have Rb := Lib.hid hrb; have HPa := Lib.hid hpa; have HPb := Lib.hid hpb; have HB := Lib.hid hB; have Wd := Lib.hid wd
  have a0 := B1.row 0 _ rfl; rw [Nat.zero_add] at a0
  have a1 := B1.row 1 _ rfl; rw [Nat.zero_add] at a1
  have b0 := B2.row 0 _ rfl; rw [Nat.zero_add] at b0
  have b1 := B2.row 1 _ rfl; rw [Nat.zero_add] at b1
  clear hW B1 B2 hg hs hsa hsb hra hrb hpa hpb hB wd
  go_enter Tryd.func27, Tryd.ntmps27
  go_upto_region 1 with (fail)
  rw [HW.out]
  clear HW
  go_wp2
  go_loopw [5] (fun i wr => ∃ k : Nat, k ≤ d.parts.length ∧ i = .int .i64 k ∧ W.grownBy wr none) (fun i _ => d.parts.length - (intOf i).toNat)
  case atStart => exact ⟨0, Nat.zero_le _, rfl, World.grownBy.refl _ _⟩
  case round =>
    obtain ⟨k, hk, rfl, hg⟩ := hrel
    have G := Lib.hid hg; clear hg
    have a1' := (H1.out.grown G.out (by simp)).row 1 _ rfl; rw [Nat.zero_add] at a1'
    have b1' := (H2.out.grown G.out (by simp)).row 1 _ rfl; rw [Nat.zero_add] at b1'
    by_cases hlt : k < d.parts.length
    · rcases Ra.out with ⟨_, h0, _⟩ | ⟨g1, o1, rfl, hg1, hr1⟩
      · omega
      rcases Rb.out with ⟨_, h0, _⟩ | ⟨g2, o2, rfl, hg2, hr2⟩
      · omega
      have gw := Lib.grownBy_trans Hg.out G.out
      obtain ⟨pva, k1, k2⟩ := HPa.out.get k hlt
      obtain ⟨pvb, k3, k4⟩ := HPb.out.get k hlt
      obtain ⟨xa, xna, rfl⟩ := RdE.shape k1
      obtain ⟨xb, xnb, rfl⟩ := RdE.shape k3
      have q1 := Lib.hid (show RowAt wr g1 (o1 + k * 4) (d.parts[k].cells (.slice xa d.parts[k].path.length xna)) by have := (hr1.grown gw (by simp)).part (k * 4) 4; rwa [k2] at this)
      have q2 := Lib.hid (show RowAt wr g2 (o2 + k * 4) (d.parts[k].cells (.slice xb d.parts[k].path.length xnb)) by have := (hr2.grown gw (by simp)).part (k * 4) 4; rwa [k4] at this)
      have K1 := Lib.hid (RdE.grown k1 gw); have K3 := Lib.hid (RdE.grown k3 gw)
      have Wx := Lib.hid (Wd.out.parts d.parts[k] (List.getElem_mem _))
      obtain ⟨x, hx⟩ : ∃ x, x = d.parts[k] := ⟨_, rfl⟩
      rw [← hx] at q1 q2 K1 K3 Wx
      have G2 := Lib.hid gw
      clear hr1 hr2 k1 k2 k3 k4 hx gw a0 b0
      obtain ⟨m, hm⟩ : ∃ m, wr.heap.size = m := ⟨_, rfl⟩
      have Hm := Lib.hid hm; clear hm
      go_wp2_with (first | (refine wpList_load_part rfl 46 _ rfl g1 (o1 + k * 4) rfl (x.cells (.slice xa x.path.length xna)) _ q1.out Tryd.underlying46 rfl sizePart ?_) | (refine wpList_alloc_as rfl 46 rfl ZPart ZPart_info ?_))
      intro w4 b4 g4 s4
      have B4 := Lib.hid b4; have G4 := Lib.hid g4; clear b4 g4 s4
      go_wp2_with (refine wpList_store_whole rfl 46 _ _ rfl wr.heap.size rfl (x.cells (.slice xa x.path.length xna)) ZPart 46 rfl B4.out rfl (PartD_one x _ _ _) sizePart ?_)
      intro w5 g5 s5 b5
      have Gx := Lib.hid (grown_new G4.out g5 (Nat.le_refl _)); have Bx := Lib.hid b5
      replace q2 := Lib.hid (q2.out.grown Gx.out (by simp))
      have b1' := (H2.out.grown (Lib.grownBy_trans G.out Gx.out) (by simp)).row 1 _ rfl; rw [Nat.zero_add] at b1'
      clear b5 g5 s5 B4 G4 a1'
      go_wp2_with (first | (refine wpList_load_part rfl 46 _ rfl g2 (o2 + k * 4) rfl (x.cells (.slice xb x.path.length xnb)) _ q2.out Tryd.underlying46 rfl sizePart ?_) | (refine wpList_alloc_as rfl 46 rfl ZPart ZPart_info ?_))
      intro w6 b6 g6 s6
      have B6 := Lib.hid b6; have G6 := Lib.hid g6; clear b6 g6 s6
      go_wp2_with (refine wpList_store_whole rfl 46 _ _ rfl w5.heap.size rfl (x.cells (.slice xb x.path.length xnb)) ZPart 46 rfl B6.out rfl (PartD_one x _ _ _) sizePart ?_)
      intro w7 g7 s7 b7
      have Gy := Lib.hid (grown_new G6.out g7 (Nat.le_refl _)); have By := Lib.hid b7
      replace Bx := Lib.hid (Bx.out.grown Gy.out (by simp))
      replace Gx := Lib.hid (Lib.grownBy_trans Gx.out Gy.out)
      clear b7 g7 s7 B6 G6 b1' q1 q2
      rw [Hm.out] at Bx ⊢
      obtain ⟨n, hn⟩ : ∃ n, w5.heap.size = n := ⟨_, rfl⟩
      rw [hn] at By ⊢
      clear hn
      have x0 := Bx.out.row 0 _ rfl; rw [Nat.zero_add] at x0
      have x3 := Bx.out.row 3 _ rfl; rw [Nat.zero_add] at x3
      have y0 := By.out.row 0 _ rfl; rw [Nat.zero_add] at y0
      have y3 := By.out.row 3 _ rfl; rw [Nat.zero_add] at y3
      have X12 := Lib.hid (show RowAt w7 m 1 [.string x.key, .string x.value] by have := Bx.out.row.part 1 2; rwa [Nat.zero_add] at this)
      have Y12 := Lib.hid (show RowAt w7 n 1 [.string x.key, .string x.value] by have := By.out.row.part 1 2; rwa [Nat.zero_add] at this)
      have hne := entry_neq_self x.key x.value
      go_wp2_with (first | (refine wpList_load_part rfl 43 _ rfl m 1 rfl [.string x.key, .string x.value] _ X12.out Tryd.underlying43 rfl sizeEntry ?_) | (refine wpList_load_part rfl 43 _ rfl n 1 rfl [.string x.key, .string x.value] _ Y12.out Tryd.underlying43 rfl sizeEntry ?_))
      go_loopw [8] (fun i wi => ∃ j : Nat, j ≤ x.path.length ∧ i = .int .i64 j ∧ w7.grownBy wi none) (fun i _ => x.path.length - (intOf i).toNat)
      case atStart => exact ⟨0, Nat.zero_le _, rfl, World.grownBy.refl _ _⟩
      case round =>
        obtain ⟨j, hj, rfl, hg⟩ := hrel
        have Gi := Lib.hid hg; clear hg
        have xi := (Bx.out.grown Gi.out (by simp)).row 3 _ rfl; rw [Nat.zero_add] at xi
        have yi := (By.out.grown Gi.out (by simp)).row 3 _ rfl; rw [Nat.zero_add] at yi
        clear x0 x3 y0 y3
        by_cases hlt2 : j < x.path.length
        · obtain ⟨g3, o3, c3, e3, l3, m3, _, r3⟩ := RdE.at_ K1.out (by omega)
          obtain ⟨g4, o4, c4, e4, l4, m4, _, r4⟩ := RdE.at_ K3.out (by omega)
          injection e3 with e31 e32 e33
          injection e4 with e41 e42 e43
          subst e31 e33 e41 e43
          unfold maxLen at m3 m4
          have gq := Lib.grownBy_trans Gx.out Gi.out
          have hp32 : ∀ y ∈ x.path, (Lib.byteCells y).length = 32 := fun y hy => by rw [Lib.byteCells_length]; exact Wx.out.path y hy
          have p3 := RowAt.elem (f := Lib.byteCells) (k := 32) (r3.grown gq (by simp)) hp32 j hlt2
          have p4 := RowAt.elem (f := Lib.byteCells) (k := 32) (r4.grown gq (by simp)) hp32 j hlt2
          have hself := hash_neq_self x.path[j] (Wx.out.path _ (List.getElem_mem _))
          have hl32 := hp32 _ (List.getElem_mem hlt2)
          obtain ⟨Z, hZ⟩ : ∃ Z, Lib.byteCells x.path[j] = Z := ⟨_, rfl⟩
          rw [hZ] at p3 p4 hself hl32
          have hi : (Tryd.prog.info? 24).map (·.size) = some Z.length := by rw [hl32]; kernel_rfl
          have hu := Tryd.underlying24
          clear hp32 r3 r4 gq e32 e42 hZ hne
          go_upto_region 13 with (fail)
          refine wp_region_quiet_lit (by kernel_rfl) (by kernel_rfl) ?_
          iterate 4 (quiet_step (fail))
          refine quiet_load_part rfl 24 _ rfl g3 (o3 + j * 32) rfl Z _ p3 hu rfl hi ?_
          iterate 4 (quiet_step (fail))
          refine quiet_load_part rfl 24 _ rfl g4 (o4 + j * 32) rfl Z _ p4 hu rfl hi ?_
          quiet_step (fail)
          refine wpQuiet_nil ?_
          intro _ hw'
          obtain ⟨nq, hw''⟩ := hw'
          subst hw''
          go_wp2
          exact ⟨⟨j + 1, by omega, by go_num, grown_drewN Gi.out _⟩, by simp [intOf]; omega⟩
        · obtain rfl : j = x.path.length := by omega
          go_wp2
          exact ⟨⟨k + 1, by omega, by go_num, Lib.grownBy_trans G.out (Lib.grownBy_trans Gx.out Gi.out)⟩, by simp [intOf]; omega⟩
    · obtain rfl : k = d.parts.length := by omega
      go_wp2
      go_ret
      exact ⟨rfl, Lib.grownBy_trans Hg.out G.out⟩

end Go.Proofs.YtaffpgafbjhahaaDoor
