/- Walk: tally.New. -/
import Derived.Test.YtfnginmoiecgnaaDoorTb
import Derived.Test.YtfnginmoiecgnaaDoorTs
import Derived.Test.YtfnginmoiecgnaaDoorRg
import Derived.Maps.OwnSet
import Derived.Maps.RangeWalk
namespace Go.Proofs.YtfnginmoiecgnaaDoor
open Go.RowKit
open Go.Maps (Keyed)
set_option maxRecDepth 100000

section
variable {P : Program} {o : Oper} {a : Act} {w : World} {K : Act → World → Prop} {Q : Exit → Act → World → Prop}
theorem wp_makeMap (t : TypeId) (ho : o.op = .makeMap t none) (h : K (a.put o.dst (.map (some w.heap.size))) (w.alloc (.map #[] 0))) : o.wp P a w K Q := by
  unfold Oper.wp execOp
  simp only [ho, Sem.run_bind, Sem.run_pure]
  exact h
theorem wp_box_as (ty : TypeId) (x : Operand) (ho : o.op = .box ty x) (vs : List Value) (hx : a.eval x = .agg vs.toArray)
    (h : ∀ w2, Blk w2 w.heap.size vs ty → w.grownBy w2 none → w2.heap.size = w.heap.size + 1 → K (a.put o.dst (.pointer (some ⟨w.heap.size, 0, none⟩))) w2) : o.wp P a w K Q := by
  have hrun : (Instr.box ty (.agg vs.toArray)).run P w = .ok (.pointer (some ⟨w.heap.size, 0, none⟩)) (w.alloc (.cells vs.toArray ty)) := by
    simp [Instr.box, newVar, newRow, Value.cells]
  unfold Oper.wp execOp
  simp only [ho, hx, Sem.run_bind, Sem.run_pure, Result.andThen_ok, hrun]
  exact h _ (Blk.new w vs ty) (World.grownBy_alloc w _ none) (by simp)
theorem wp_build_eq (t : TypeId) (parts : Array (Nat × Operand)) (ho : o.op = .build t parts)
    (ps : List (Nat × Value)) (hp : (parts.map fun (i, x) => (i, a.eval x)).toList = ps) (cs : List Value) (hb : P.built t ps = some cs.toArray)
    (h : K (a.put o.dst (.agg cs.toArray)) w) : o.wp P a w K Q := by
  have hb' : P.built t (parts.map fun (i, x) => (i, a.eval x)).toList = some cs.toArray := by rw [hp]; exact hb
  unfold Oper.wp execOp
  simp only [ho, Sem.run_bind, run_build w t _ _ hb', Result.andThen_ok]
  exact h
end

/-- what a map's element reads as: itself -/
def heldR (v : Value) : Option (DataW Value × List MemPlace) := some (.held v, [])
noncomputable abbrev sumR : Value → Option (DataW Value × List MemPlace) := plainElem Tryd.prog 3
def forV (c : ByteArray) (h r t : Int) : VoteD := ⟨c, h, r, t, List.replicate 32 0, 0, 0, 0⟩
theorem bFor (c : ByteArray) (h r t : Int) : Tryd.prog.built 29 [(0, .string c), (1, .int .i64 h), (2, .int .i64 r), (3, .int .i64 t)] = some (forV c h r t).cells.toArray := by kernel_rfl
def tlCells (sv : Value) (tot : Int) (of : VoteD) (bm bs : Nat) (all : Int) (tv : Value) : List Value := [sv, .int .i64 tot] ++ of.cells ++ [.map (some bm), .map (some bs), .int .i64 all, tv]
theorem bTally (sa : Option Addr) (sn sc : Nat) (tot : Int) (c : ByteArray) (h r t : Int) (bm bs : Nat) :
    Tryd.prog.built 84 [(0, .slice sa sn sc), (1, .int .i64 tot), (2, .agg (forV c h r t).cells.toArray), (3, .map (some bm)), (4, .map (some bs))] = some (tlCells (.slice sa sn sc) tot (forV c h r t) bm bs 0 (.slice none 0 0)).toArray := by kernel_rfl
theorem forV_wf (c : ByteArray) (h r t : Int) (hc : c.size ≤ maxLen) (hh : i64R h) (hr : i64R r) (ht : i64R t) : (forV c h r t).wf := ⟨hc, hh, hr, ht, by simp [forV], by simp [forV, u64R], by simp [forV, u64R], by simp [forV, u64R]⟩

/-- a tally -/
structure TlAt (w : World) (p : Nat) (ds : List ValD) (tot : Int) (of : VoteD) (bm bs : Nat) (all : Int) (tv : Value) : Prop where
  blk : ∃ sv, Blk w p (tlCells sv tot of bm bs all tv) 84 ∧ RdS w.heap.size w sv ds.length 2 (setCells ds) ∧ ∀ g, sv.ownBlock = some g → g ≠ p
  pm : bm ≠ p
  ps : bs ≠ p
  ms : bm ≠ bs

/-- a slice that is read, in a new block -/
structure RdN (B N : Nat) (w : World) (v : Value) (n k : Nat) (cs : List Value) : Prop where
  rd : RdS B w v n k cs
  new : ∀ g, v.ownBlock = some g → N ≤ g
theorem RdN.mono {B B' N : Nat} {w : World} {v : Value} {n k : Nat} {cs : List Value} (h : RdN B N w v n k cs) (hB : B ≤ B') : RdN B' N w v n k cs := ⟨h.rd.mono hB, h.new⟩
theorem RdN.grown {B N : Nat} {w w' : World} {v : Value} {n k : Nat} {cs : List Value} (h : RdN B N w v n k cs) (hg : w.grownBy w' none) : RdN B N w' v n k cs := ⟨h.rd.grown hg, h.new⟩
theorem RdN.shape {B N : Nat} {w : World} {v : Value} {n k : Nat} {cs : List Value} (h : RdN B N w v n k cs) : ∃ ao c, v = .slice ao n c := h.rd.shape
/-- what New makes, in the slot that holds its pointer -/
def NewR (w4 : World) (ds : List ValD) (tot : Int) (of : VoteD) (s10 : Value) (w' : World) : Prop := ∃ p bm bs, s10 = .pointer (some ⟨p, 0, none⟩) ∧ w4.grownBy w' none ∧ TlAt w' p ds tot of bm bs 0 (.slice none 0 0) ∧
  w4.heap.size ≤ p ∧ w4.heap.size ≤ bm ∧ w4.heap.size ≤ bs ∧ w'.ownsMap Tryd.prog 22 heldR bm 0 (.map []) ∧ w'.ownsMap Tryd.prog 25 sumR bs 0 (.map []) ∧
  ∃ sv, Blk w' p (tlCells sv tot of bm bs 0 (.slice none 0 0)) 84 ∧ ∀ g, sv.ownBlock = some g → w4.heap.size ≤ g
theorem newR_of {w4 W w9 : World} {ds : List ValD} {tot : Int} {of : VoteD} {sv : Value} {bm bs : Nat} (k : w4.grownBy W none) (v : RdN W.heap.size w4.heap.size W sv ds.length 2 (setCells ds)) (m : W.ownsMap Tryd.prog 22 heldR bm 0 (.map []))
    (q : W.ownsMap Tryd.prog 25 sumR bs 0 (.map [])) (hne : bm ≠ bs) (hm : w4.heap.size ≤ bm) (hs : w4.heap.size ≤ bs) (b9 : Blk w9 W.heap.size (tlCells sv tot of bm bs 0 (.slice none 0 0)) 84) (g9 : W.grownBy w9 none) :
    NewR w4 ds tot of (.pointer (some ⟨W.heap.size, 0, none⟩)) w9 := by
  have lm := m.lt; have ls := q.lt
  refine ⟨W.heap.size, bm, bs, rfl, Lib.grownBy_trans k g9, ⟨⟨sv, b9, (v.rd.grown g9).mono g9.size, ?_⟩, by omega, by omega, hne⟩, k.size, hm, hs, m.kept g9 (by simp), q.kept g9 (by simp), sv, b9, v.new⟩
  intro g hg
  obtain ⟨ao, c, rfl, _, _, _, ⟨rfl, _⟩ | ⟨g', o, rfl, hlt, _⟩⟩ := v.rd
  · simp [Value.ownBlock] at hg
  · simp [Value.ownBlock] at hg; omega
theorem enters_cloneV : ∀ args w, (callFunc 45 args).run Tryd.prog w = .ok (.enter 45 args) w := enters Tryd.func45 (by kernel_rfl) rfl
set_option maxHeartbeats 2000000 in
theorem New_no {B : Nat} (v : Value) (ds : List ValD) (c : ByteArray) (h r t : Int) (w : World) (hr : RdS B w v ds.length 2 (setCells ds)) (hn : rightL ds = false) :
    Calls Tryd.prog 18 #[v, .string c, .int .i64 h, .int .i64 r, .int .i64 t] w fun e w' => e = .returned (.tuple #[.pointer none, .int .i64 71]) ∧ w.grownBy w' none := by
  have CT := vTotal_ok v ds w hr
  obtain ⟨ao, k, rfl, _⟩ := hr
  rw [if_neg (by simp [hn])] at CT
  have HC := Lib.hid CT
  clear CT hn
  go_enter Tryd.func18, Tryd.ntmps18
  go_wp2_with fail
  refine HC.out.mono ?_
  rintro e w1 ⟨rfl, g1⟩
  have G1 := Lib.hid g1
  clear g1 HC
  go_wp2_with fail
  go_ret2
  exact ⟨rfl, G1.out⟩

set_option maxHeartbeats 2000000 in
theorem New_form {B : Nat} (v : Value) (ds : List ValD) (c : ByteArray) (h r t : Int) (w : World) (hr : RdS B w v ds.length 2 (setCells ds)) (hn : rightL ds = true) (hv : (forV c h r t).wf) (ho : okVote (forV c h r t) = false) :
    Calls Tryd.prog 18 #[v, .string c, .int .i64 h, .int .i64 r, .int .i64 t] w fun e w' => e = .returned (.tuple #[.pointer none, .int .i64 91]) ∧ w.grownBy w' none := by
  have CT := vTotal_ok v ds w hr
  obtain ⟨ao, k, rfl, _⟩ := hr
  rw [if_pos hn] at CT
  have HC := Lib.hid CT; have HV := Lib.hid hv; have HO := Lib.hid ho
  obtain ⟨tot, htot⟩ : ∃ n, totalL ds = n := ⟨_, rfl⟩
  rw [htot] at HC
  clear CT hn htot hv ho
  go_enter Tryd.func18, Tryd.ntmps18
  go_wp2_with fail
  refine HC.out.mono ?_
  rintro e w1 ⟨rfl, g1⟩
  have G1 := Lib.hid g1
  clear g1 HC
  go_wp2_with (first | (refine wpList_build_eq rfl 29 _ rfl [(0, .string c), (1, .int .i64 h), (2, .int .i64 r), (3, .int .i64 t)] (by kernel_rfl) _ (bFor c h r t) ?_) | (refine wpList_alloc_as rfl 29 rfl ZVote ZVote_info ?_))
  intro w2 b2 g2 s2
  obtain ⟨b, hb⟩ : ∃ b, w1.heap.size = b := ⟨_, rfl⟩
  rw [hb] at b2 ⊢
  have B2 := Lib.hid b2; have G2 := Lib.hid (Lib.grownBy_trans G1.out g2)
  have HB := Lib.hid (show w.heap.size ≤ b by have := G1.out.size; omega)
  have hl := Lib.hid (VoteD.cells_length _ HV.out)
  clear b2 g2 s2 hb G1
  go_wp2_with (first | (refine wpList_store_whole rfl 29 _ _ rfl b rfl (forV c h r t).cells ZVote 29 rfl B2.out (by rw [hl.out]; rfl) (VoteD_one _) (sizeVote _ hl.out) ?_))
  intro w3 g3 s3 b3
  have B3 := Lib.hid b3; have G3 := Lib.hid (grown_new G2.out g3 HB.out)
  clear b3 g3 s3 B2 G2
  go_wp2_with (first | (refine wpList_load_part rfl 29 _ rfl b 0 rfl (forV c h r t).cells _ B3.out.row Tryd.underlying29 rfl (sizeVote _ hl.out) ?_))
  refine (show Calls Tryd.prog 44 #[.agg (forV c h r t).cells.toArray] w3 _ from EncodeVote_no _ w3 HV.out HO.out).mono ?_
  rintro e w4 ⟨rfl, g4⟩
  have G4 := Lib.hid (Lib.grownBy_trans G3.out (below_grown g4))
  clear g4 G3 B3
  go_wp2_with fail
  go_ret2
  exact ⟨rfl, G4.out⟩

set_option maxHeartbeats 2000000 in
theorem New_yes {B : Nat} (v : Value) (ds : List ValD) (c : ByteArray) (h r t : Int) (w : World) (hr : RdS B w v ds.length 2 (setCells ds)) (hn : rightL ds = true) (hv : (forV c h r t).wf) (ho : okVote (forV c h r t) = true) :
    Calls Tryd.prog 18 #[v, .string c, .int .i64 h, .int .i64 r, .int .i64 t] w fun e w' => ∃ p bm bs, e = .returned (.tuple #[.pointer (some ⟨p, 0, none⟩), .int .i64 0]) ∧ w.grownBy w' none ∧
      TlAt w' p ds (totalL ds) (forV c h r t) bm bs 0 (.slice none 0 0) ∧ w.heap.size ≤ p ∧ w.heap.size ≤ bm ∧ w.heap.size ≤ bs ∧ w'.ownsMap Tryd.prog 22 heldR bm 0 (.map []) ∧ w'.ownsMap Tryd.prog 25 sumR bs 0 (.map []) ∧
      ∃ sv, Blk w' p (tlCells sv (totalL ds) (forV c h r t) bm bs 0 (.slice none 0 0)) 84 ∧ ∀ g, sv.ownBlock = some g → w.heap.size ≤ g := by
  have CT := vTotal_ok v ds w hr
  have HRD := Lib.hid hr
  obtain ⟨ao, k, rfl, _⟩ := hr
  rw [if_pos hn] at CT
  have l2 : ds.length ≤ 64 ∧ 1 ≤ ds.length := by unfold rightL at hn; simp only [Bool.and_eq_true, decide_eq_true_eq] at hn; exact ⟨hn.2, hn.1.2⟩
  have HC := Lib.hid CT; have HV := Lib.hid hv; have HO := Lib.hid ho; have HL := Lib.hid l2
  obtain ⟨tot, htot⟩ : ∃ n, totalL ds = n := ⟨_, rfl⟩
  rw [htot] at HC ⊢
  clear CT hn htot hv ho l2
  go_enter Tryd.func18, Tryd.ntmps18
  go_wp2_with fail
  refine HC.out.mono ?_
  rintro e w1 ⟨rfl, g1⟩
  have G1 := Lib.hid g1
  clear g1 HC
  go_wp2_with (first | (refine wpList_build_eq rfl 29 _ rfl [(0, .string c), (1, .int .i64 h), (2, .int .i64 r), (3, .int .i64 t)] (by kernel_rfl) _ (bFor c h r t) ?_) | (refine wpList_alloc_as rfl 29 rfl ZVote ZVote_info ?_))
  intro w2 b2 g2 s2
  obtain ⟨b, hb⟩ : ∃ b, w1.heap.size = b := ⟨_, rfl⟩
  rw [hb] at b2 ⊢
  have B2 := Lib.hid b2; have G2 := Lib.hid (Lib.grownBy_trans G1.out g2)
  have HB := Lib.hid (show w.heap.size ≤ b by have := G1.out.size; omega)
  have hl := Lib.hid (VoteD.cells_length _ HV.out)
  clear b2 g2 s2 hb G1
  go_wp2_with (first | (refine wpList_store_whole rfl 29 _ _ rfl b rfl (forV c h r t).cells ZVote 29 rfl B2.out (by rw [hl.out]; rfl) (VoteD_one _) (sizeVote _ hl.out) ?_))
  intro w3 g3 s3 b3
  have B3 := Lib.hid b3; have G3 := Lib.hid (grown_new G2.out g3 HB.out)
  clear b3 g3 s3 B2 G2
  go_wp2_with (first | (refine wpList_load_part rfl 29 _ rfl b 0 rfl (forV c h r t).cells _ B3.out.row Tryd.underlying29 rfl (sizeVote _ hl.out) ?_))
  refine (show Calls Tryd.prog 44 #[.agg (forV c h r t).cells.toArray] w3 _ from EncodeVote_yes _ w3 HV.out HO.out).mono ?_
  rintro e w4 ⟨ea, en, ec, rfl, o4, g4⟩
  have B4 := Lib.hid (B3.out.grown (below_grown g4) (by simp)); have G4 := Lib.hid (Lib.grownBy_trans G3.out (below_grown g4))
  clear o4 g4 G3 B3
  go_upto_region 1 with (fail)
  go_cut [10, 11] from 12 (fun s10 s11 w' => s11 = .int .i64 0 ∧ NewR w4 ds tot (forV c h r t) s10 w')
  case first =>
    have k0 := Lib.hid (dr_grown w4 1)
    have RB := Lib.hid (show ∀ W, w4.grownBy W none → RowAt W b 0 (forV c h r t).cells from fun W g => (B4.out.grown g (by simp)).row)
    refine wp_region_held_drew (S := fun W => RowAt W b 0 (forV c h r t).cells) (by kernel_rfl) (RB.out _ k0.out) (fun hH => ?_)
    refine wpAnyH_take (i := 0) (v := (.slice ao ds.length k)) rfl (by kernel_rfl) (by kernel_rfl) (by kernel_rfl) (fun _ _ _ h => h) (Or.inl ⟨by rfl, fun W _ => by go_simp⟩) hH ?_
    simp only [Act.put, List.getElem_toArray, List.getElem_cons_zero, List.setIfInBounds_toArray, List.set_cons_zero, List.set_cons_succ]
    refine wpAnyH_take (i := 2) (v := (.int .i64 tot)) rfl (by kernel_rfl) (by kernel_rfl) (by kernel_rfl) (fun _ _ _ h => h) (Or.inl ⟨by rfl, fun W _ => by go_simp⟩) hH ?_
    simp only [Act.put, List.getElem_toArray, List.getElem_cons_succ, List.getElem_cons_zero, List.setIfInBounds_toArray, List.set_cons_zero, List.set_cons_succ]
    refine wpAnyH_take (i := 3) (v := (.agg (forV c h r t).cells.toArray)) rfl (by kernel_rfl) (by kernel_rfl) (by kernel_rfl) (fun _ _ _ h => h) (yieldsIf_load_mid (by rfl) 29 _ rfl b 0 rfl (forV c h r t).cells _ (fun W h => h) Tryd.underlying29 rfl (sizeVote _ hl.out)) hH ?_
    simp only [Act.put, List.getElem_toArray, List.getElem_cons_succ, List.getElem_cons_zero, List.setIfInBounds_toArray, List.set_cons_zero, List.set_cons_succ]
    obtain ⟨u0, hu0⟩ : ∃ b, w4.drewN 1 = b := ⟨_, rfl⟩
    rw [show w4.drew = u0 from hu0]
    rw [hu0] at k0
    refine wpAnyH_ready (rs := [1, 4, 5]) (by kernel_rfl) (by simp) ?_
    refine AllReadyH.cons rfl (fun K hK => ?_) (AllReadyH.cons rfl (fun K hK => ?_) (AllReadyH.cons rfl (fun K hK => ?_) AllReadyH.nil))
    · refine step_wanted (by rfl) (wp_call 45 _ _ (by rfl) enters_cloneV (by rfl) (cloneV_ok (.slice ao ds.length k) ds u0 ((HRD.out.grown (Lib.grownBy_trans G4.out k0.out))) HL.out.2 (by have := HL.out.1; omega)) ?_)
      rintro e u1 ⟨v', rfl, vv, vn, _, bb⟩
      have g1 := below_grown bb
      refine ⟨_, rfl, ?_⟩
      have v1 := Lib.hid (RdN.mk (N := w4.heap.size) vv fun g h => Nat.le_trans k0.out.size (vn g h))
      have k1 := Lib.hid (Lib.grownBy_trans k0.out g1)
      simp only [Act.put, List.getElem_toArray, List.getElem_cons_succ, List.getElem_cons_zero, List.setIfInBounds_toArray, List.set_cons_zero, List.set_cons_succ]
      refine hK.out _ _ (RB.out _ k1.out) (fun hH => ?_)
      clear hK K
      refine wpAnyH_ready (rs := [4, 5]) (by kernel_rfl) (by simp) ?_
      refine AllReadyH.cons rfl (fun K hK => ?_) (AllReadyH.cons rfl (fun K hK => ?_) AllReadyH.nil)
      · refine step_wanted (by rfl) (wp_makeMap 81 (by rfl) ?_)
        have g2 : u1.grownBy (u1.alloc (.map #[] 0)) none := World.grownBy_alloc _ _ none
        have m2 := Lib.hid (World.ownsMap_made u1 Tryd.prog 22 heldR)
        have k2 := Lib.hid (Lib.grownBy_trans k1.out g2)
        have v2 := Lib.hid ((v1.out.grown g2).mono g2.size)
        obtain ⟨bm, hbm⟩ : ∃ b, u1.heap.size = b := ⟨_, rfl⟩
        have lbm := Lib.hid (show w4.heap.size ≤ bm by have := k1.out.size; omega)
        rw [hbm] at m2 ⊢
        obtain ⟨u2, hu2⟩ : ∃ b, u1.alloc (.map #[] 0) = b := ⟨_, rfl⟩
        rw [hu2] at k2 m2 v2 ⊢
        simp only [Act.put, List.getElem_toArray, List.getElem_cons_succ, List.getElem_cons_zero, List.setIfInBounds_toArray, List.set_cons_zero, List.set_cons_succ]
        refine hK.out _ _ (RB.out _ k2.out) (fun hH => ?_)
        clear hK K
        refine wpAnyH_ready (rs := [5]) (by kernel_rfl) (by simp) ?_
        refine AllReadyH.cons rfl (fun K hK => ?_) AllReadyH.nil
        · refine step_wanted (by rfl) (wp_makeMap 82 (by rfl) ?_)
          have g3 : u2.grownBy (u2.alloc (.map #[] 0)) none := World.grownBy_alloc _ _ none
          have q3 := Lib.hid (World.ownsMap_made u2 Tryd.prog 25 sumR)
          have hlt := Lib.hid m2.out.lt
          have k3 := Lib.hid (Lib.grownBy_trans k2.out g3)
          have v3 := Lib.hid ((v2.out.grown g3).mono g3.size)
          have m3 := Lib.hid (m2.out.kept g3 (by simp))
          obtain ⟨bs, hbs⟩ : ∃ b, u2.heap.size = b := ⟨_, rfl⟩
          have lbs := Lib.hid (show w4.heap.size ≤ bs by have := k2.out.size; omega)
          rw [hbs] at q3 hlt ⊢
          obtain ⟨u3, hu3⟩ : ∃ b, u2.alloc (.map #[] 0) = b := ⟨_, rfl⟩
          rw [hu3] at k3 q3 v3 m3 ⊢
          simp only [Act.put, List.getElem_toArray, List.getElem_cons_succ, List.getElem_cons_zero, List.setIfInBounds_toArray, List.set_cons_zero, List.set_cons_succ]
          refine hK.out _ _ (RB.out _ k3.out) (fun hH => ?_)
          clear hK K
          have hne := Lib.hid (show bm ≠ bs from by have := hlt.out; omega)
          obtain ⟨va, vc, rfl⟩ := v3.out.shape
          refine wpAnyH_ready (rs := [6]) (by kernel_rfl) (by simp) ?_
          refine AllReadyH.cons rfl (fun K hK => ?_) AllReadyH.nil
          refine step_wanted (by rfl) (wp_build_eq 84 _ (by rfl) [(0, .slice va ds.length vc), (1, .int .i64 tot), (2, .agg (forV c h r t).cells.toArray), (3, .map (some bm)), (4, .map (some bs))] (by kernel_rfl) _ (bTally va ds.length vc tot c h r t bm bs) ?_)
          simp only [Act.put, List.getElem_toArray, List.getElem_cons_succ, List.getElem_cons_zero, List.setIfInBounds_toArray, List.set_cons_zero, List.set_cons_succ]
          refine hK.out _ _ (RB.out _ k3.out) (fun hH => ?_)
          clear hK K
          refine wpAnyH_ready (rs := [7]) (by kernel_rfl) (by simp) ?_
          refine AllReadyH.cons rfl (fun K hK => ?_) AllReadyH.nil
          refine step_wanted (by rfl) (wp_box_as 84 _ (by rfl) _ (by rfl) ?_)
          intro w9 b9 g9 s9
          have NR := Lib.hid (newR_of k3.out v3.out m3.out q3.out hne.out lbm.out lbs.out b9 g9)
          have k9 := Lib.grownBy_trans k3.out g9
          obtain ⟨pp, hpp⟩ : ∃ p, u3.heap.size = p := ⟨_, rfl⟩
          rw [hpp] at NR ⊢
          simp only [Act.put, List.getElem_toArray, List.getElem_cons_succ, List.getElem_cons_zero, List.setIfInBounds_toArray, List.set_cons_zero, List.set_cons_succ]
          refine hK.out _ _ (RB.out _ k9) (fun hH => ?_)
          clear hK K b9 g9 s9
          refine wpAnyH_take (i := 8) (v := (.pointer (some ⟨pp, 0, none⟩))) rfl (by kernel_rfl) (by kernel_rfl) (by kernel_rfl) (fun _ _ _ h => h) (Or.inl ⟨by rfl, fun W _ => by go_simp⟩) hH ?_
          simp only [Act.put, List.getElem_toArray, List.getElem_cons_succ, List.getElem_cons_zero, List.setIfInBounds_toArray, List.set_cons_zero, List.set_cons_succ]
          refine wpAnyH_take (i := 9) (v := (.int .i64 0)) rfl (by kernel_rfl) (by kernel_rfl) (by kernel_rfl) (fun _ _ _ h => h) (Or.inl ⟨by rfl, fun W _ => by go_simp⟩) hH ?_
          simp only [Act.put, List.getElem_toArray, List.getElem_cons_succ, List.getElem_cons_zero, List.setIfInBounds_toArray, List.set_cons_zero, List.set_cons_succ]
          refine wpAnyH_done (by kernel_rfl) ?_ _
          go_wp2
          go_meet
          case rel => exact ⟨rfl, NR.out⟩
      · refine step_wanted (by rfl) (wp_makeMap 82 (by rfl) ?_)
        have g2 : u1.grownBy (u1.alloc (.map #[] 0)) none := World.grownBy_alloc _ _ none
        have q2 := Lib.hid (World.ownsMap_made u1 Tryd.prog 25 sumR)
        have k2 := Lib.hid (Lib.grownBy_trans k1.out g2)
        have v2 := Lib.hid ((v1.out.grown g2).mono g2.size)
        obtain ⟨bs, hbs⟩ : ∃ b, u1.heap.size = b := ⟨_, rfl⟩
        have lbs := Lib.hid (show w4.heap.size ≤ bs by have := k1.out.size; omega)
        rw [hbs] at q2 ⊢
        obtain ⟨u2, hu2⟩ : ∃ b, u1.alloc (.map #[] 0) = b := ⟨_, rfl⟩
        rw [hu2] at k2 q2 v2 ⊢
        simp only [Act.put, List.getElem_toArray, List.getElem_cons_succ, List.getElem_cons_zero, List.setIfInBounds_toArray, List.set_cons_zero, List.set_cons_succ]
        refine hK.out _ _ (RB.out _ k2.out) (fun hH => ?_)
        clear hK K
        refine wpAnyH_ready (rs := [4]) (by kernel_rfl) (by simp) ?_
        refine AllReadyH.cons rfl (fun K hK => ?_) AllReadyH.nil
        · refine step_wanted (by rfl) (wp_makeMap 81 (by rfl) ?_)
          have g3 : u2.grownBy (u2.alloc (.map #[] 0)) none := World.grownBy_alloc _ _ none
          have m3 := Lib.hid (World.ownsMap_made u2 Tryd.prog 22 heldR)
          have hlt := Lib.hid q2.out.lt
          have k3 := Lib.hid (Lib.grownBy_trans k2.out g3)
          have v3 := Lib.hid ((v2.out.grown g3).mono g3.size)
          have q3 := Lib.hid (q2.out.kept g3 (by simp))
          obtain ⟨bm, hbm⟩ : ∃ b, u2.heap.size = b := ⟨_, rfl⟩
          have lbm := Lib.hid (show w4.heap.size ≤ bm by have := k2.out.size; omega)
          rw [hbm] at m3 hlt ⊢
          obtain ⟨u3, hu3⟩ : ∃ b, u2.alloc (.map #[] 0) = b := ⟨_, rfl⟩
          rw [hu3] at k3 m3 v3 q3 ⊢
          simp only [Act.put, List.getElem_toArray, List.getElem_cons_succ, List.getElem_cons_zero, List.setIfInBounds_toArray, List.set_cons_zero, List.set_cons_succ]
          refine hK.out _ _ (RB.out _ k3.out) (fun hH => ?_)
          clear hK K
          have hne := Lib.hid (show bm ≠ bs from by have := hlt.out; omega)
          obtain ⟨va, vc, rfl⟩ := v3.out.shape
          refine wpAnyH_ready (rs := [6]) (by kernel_rfl) (by simp) ?_
          refine AllReadyH.cons rfl (fun K hK => ?_) AllReadyH.nil
          refine step_wanted (by rfl) (wp_build_eq 84 _ (by rfl) [(0, .slice va ds.length vc), (1, .int .i64 tot), (2, .agg (forV c h r t).cells.toArray), (3, .map (some bm)), (4, .map (some bs))] (by kernel_rfl) _ (bTally va ds.length vc tot c h r t bm bs) ?_)
          simp only [Act.put, List.getElem_toArray, List.getElem_cons_succ, List.getElem_cons_zero, List.setIfInBounds_toArray, List.set_cons_zero, List.set_cons_succ]
          refine hK.out _ _ (RB.out _ k3.out) (fun hH => ?_)
          clear hK K
          refine wpAnyH_ready (rs := [7]) (by kernel_rfl) (by simp) ?_
          refine AllReadyH.cons rfl (fun K hK => ?_) AllReadyH.nil
          refine step_wanted (by rfl) (wp_box_as 84 _ (by rfl) _ (by rfl) ?_)
          intro w9 b9 g9 s9
          have NR := Lib.hid (newR_of k3.out v3.out m3.out q3.out hne.out lbm.out lbs.out b9 g9)
          have k9 := Lib.grownBy_trans k3.out g9
          obtain ⟨pp, hpp⟩ : ∃ p, u3.heap.size = p := ⟨_, rfl⟩
          rw [hpp] at NR ⊢
          simp only [Act.put, List.getElem_toArray, List.getElem_cons_succ, List.getElem_cons_zero, List.setIfInBounds_toArray, List.set_cons_zero, List.set_cons_succ]
          refine hK.out _ _ (RB.out _ k9) (fun hH => ?_)
          clear hK K b9 g9 s9
          refine wpAnyH_take (i := 8) (v := (.pointer (some ⟨pp, 0, none⟩))) rfl (by kernel_rfl) (by kernel_rfl) (by kernel_rfl) (fun _ _ _ h => h) (Or.inl ⟨by rfl, fun W _ => by go_simp⟩) hH ?_
          simp only [Act.put, List.getElem_toArray, List.getElem_cons_succ, List.getElem_cons_zero, List.setIfInBounds_toArray, List.set_cons_zero, List.set_cons_succ]
          refine wpAnyH_take (i := 9) (v := (.int .i64 0)) rfl (by kernel_rfl) (by kernel_rfl) (by kernel_rfl) (fun _ _ _ h => h) (Or.inl ⟨by rfl, fun W _ => by go_simp⟩) hH ?_
          simp only [Act.put, List.getElem_toArray, List.getElem_cons_succ, List.getElem_cons_zero, List.setIfInBounds_toArray, List.set_cons_zero, List.set_cons_succ]
          refine wpAnyH_done (by kernel_rfl) ?_ _
          go_wp2
          go_meet
          case rel => exact ⟨rfl, NR.out⟩
    · refine step_wanted (by rfl) (wp_makeMap 81 (by rfl) ?_)
      have g1 : u0.grownBy (u0.alloc (.map #[] 0)) none := World.grownBy_alloc _ _ none
      have m1 := Lib.hid (World.ownsMap_made u0 Tryd.prog 22 heldR)
      have k1 := Lib.hid (Lib.grownBy_trans k0.out g1)
      obtain ⟨bm, hbm⟩ : ∃ b, u0.heap.size = b := ⟨_, rfl⟩
      have lbm := Lib.hid (show w4.heap.size ≤ bm by have := k0.out.size; omega)
      rw [hbm] at m1 ⊢
      obtain ⟨u1, hu1⟩ : ∃ b, u0.alloc (.map #[] 0) = b := ⟨_, rfl⟩
      rw [hu1] at k1 m1 ⊢
      simp only [Act.put, List.getElem_toArray, List.getElem_cons_succ, List.getElem_cons_zero, List.setIfInBounds_toArray, List.set_cons_zero, List.set_cons_succ]
      refine hK.out _ _ (RB.out _ k1.out) (fun hH => ?_)
      clear hK K
      refine wpAnyH_ready (rs := [1, 5]) (by kernel_rfl) (by simp) ?_
      refine AllReadyH.cons rfl (fun K hK => ?_) (AllReadyH.cons rfl (fun K hK => ?_) AllReadyH.nil)
      · refine step_wanted (by rfl) (wp_call 45 _ _ (by rfl) enters_cloneV (by rfl) (cloneV_ok (.slice ao ds.length k) ds u1 ((HRD.out.grown (Lib.grownBy_trans G4.out k1.out))) HL.out.2 (by have := HL.out.1; omega)) ?_)
        rintro e u2 ⟨v', rfl, vv, vn, _, bb⟩
        have g2 := below_grown bb
        refine ⟨_, rfl, ?_⟩
        have v2 := Lib.hid (RdN.mk (N := w4.heap.size) vv fun g h => Nat.le_trans k1.out.size (vn g h))
        have k2 := Lib.hid (Lib.grownBy_trans k1.out g2)
        have m2 := Lib.hid (m1.out.kept g2 (by simp))
        simp only [Act.put, List.getElem_toArray, List.getElem_cons_succ, List.getElem_cons_zero, List.setIfInBounds_toArray, List.set_cons_zero, List.set_cons_succ]
        refine hK.out _ _ (RB.out _ k2.out) (fun hH => ?_)
        clear hK K
        refine wpAnyH_ready (rs := [5]) (by kernel_rfl) (by simp) ?_
        refine AllReadyH.cons rfl (fun K hK => ?_) AllReadyH.nil
        · refine step_wanted (by rfl) (wp_makeMap 82 (by rfl) ?_)
          have g3 : u2.grownBy (u2.alloc (.map #[] 0)) none := World.grownBy_alloc _ _ none
          have q3 := Lib.hid (World.ownsMap_made u2 Tryd.prog 25 sumR)
          have hlt := Lib.hid m2.out.lt
          have k3 := Lib.hid (Lib.grownBy_trans k2.out g3)
          have m3 := Lib.hid (m2.out.kept g3 (by simp))
          have v3 := Lib.hid ((v2.out.grown g3).mono g3.size)
          obtain ⟨bs, hbs⟩ : ∃ b, u2.heap.size = b := ⟨_, rfl⟩
          have lbs := Lib.hid (show w4.heap.size ≤ bs by have := k2.out.size; omega)
          rw [hbs] at q3 hlt ⊢
          obtain ⟨u3, hu3⟩ : ∃ b, u2.alloc (.map #[] 0) = b := ⟨_, rfl⟩
          rw [hu3] at k3 q3 m3 v3 ⊢
          simp only [Act.put, List.getElem_toArray, List.getElem_cons_succ, List.getElem_cons_zero, List.setIfInBounds_toArray, List.set_cons_zero, List.set_cons_succ]
          refine hK.out _ _ (RB.out _ k3.out) (fun hH => ?_)
          clear hK K
          have hne := Lib.hid (show bm ≠ bs from by have := hlt.out; omega)
          obtain ⟨va, vc, rfl⟩ := v3.out.shape
          refine wpAnyH_ready (rs := [6]) (by kernel_rfl) (by simp) ?_
          refine AllReadyH.cons rfl (fun K hK => ?_) AllReadyH.nil
          refine step_wanted (by rfl) (wp_build_eq 84 _ (by rfl) [(0, .slice va ds.length vc), (1, .int .i64 tot), (2, .agg (forV c h r t).cells.toArray), (3, .map (some bm)), (4, .map (some bs))] (by kernel_rfl) _ (bTally va ds.length vc tot c h r t bm bs) ?_)
          simp only [Act.put, List.getElem_toArray, List.getElem_cons_succ, List.getElem_cons_zero, List.setIfInBounds_toArray, List.set_cons_zero, List.set_cons_succ]
          refine hK.out _ _ (RB.out _ k3.out) (fun hH => ?_)
          clear hK K
          refine wpAnyH_ready (rs := [7]) (by kernel_rfl) (by simp) ?_
          refine AllReadyH.cons rfl (fun K hK => ?_) AllReadyH.nil
          refine step_wanted (by rfl) (wp_box_as 84 _ (by rfl) _ (by rfl) ?_)
          intro w9 b9 g9 s9
          have NR := Lib.hid (newR_of k3.out v3.out m3.out q3.out hne.out lbm.out lbs.out b9 g9)
          have k9 := Lib.grownBy_trans k3.out g9
          obtain ⟨pp, hpp⟩ : ∃ p, u3.heap.size = p := ⟨_, rfl⟩
          rw [hpp] at NR ⊢
          simp only [Act.put, List.getElem_toArray, List.getElem_cons_succ, List.getElem_cons_zero, List.setIfInBounds_toArray, List.set_cons_zero, List.set_cons_succ]
          refine hK.out _ _ (RB.out _ k9) (fun hH => ?_)
          clear hK K b9 g9 s9
          refine wpAnyH_take (i := 8) (v := (.pointer (some ⟨pp, 0, none⟩))) rfl (by kernel_rfl) (by kernel_rfl) (by kernel_rfl) (fun _ _ _ h => h) (Or.inl ⟨by rfl, fun W _ => by go_simp⟩) hH ?_
          simp only [Act.put, List.getElem_toArray, List.getElem_cons_succ, List.getElem_cons_zero, List.setIfInBounds_toArray, List.set_cons_zero, List.set_cons_succ]
          refine wpAnyH_take (i := 9) (v := (.int .i64 0)) rfl (by kernel_rfl) (by kernel_rfl) (by kernel_rfl) (fun _ _ _ h => h) (Or.inl ⟨by rfl, fun W _ => by go_simp⟩) hH ?_
          simp only [Act.put, List.getElem_toArray, List.getElem_cons_succ, List.getElem_cons_zero, List.setIfInBounds_toArray, List.set_cons_zero, List.set_cons_succ]
          refine wpAnyH_done (by kernel_rfl) ?_ _
          go_wp2
          go_meet
          case rel => exact ⟨rfl, NR.out⟩
      · refine step_wanted (by rfl) (wp_makeMap 82 (by rfl) ?_)
        have g2 : u1.grownBy (u1.alloc (.map #[] 0)) none := World.grownBy_alloc _ _ none
        have q2 := Lib.hid (World.ownsMap_made u1 Tryd.prog 25 sumR)
        have hlt := Lib.hid m1.out.lt
        have k2 := Lib.hid (Lib.grownBy_trans k1.out g2)
        have m2 := Lib.hid (m1.out.kept g2 (by simp))
        obtain ⟨bs, hbs⟩ : ∃ b, u1.heap.size = b := ⟨_, rfl⟩
        have lbs := Lib.hid (show w4.heap.size ≤ bs by have := k1.out.size; omega)
        rw [hbs] at q2 hlt ⊢
        obtain ⟨u2, hu2⟩ : ∃ b, u1.alloc (.map #[] 0) = b := ⟨_, rfl⟩
        rw [hu2] at k2 q2 m2 ⊢
        simp only [Act.put, List.getElem_toArray, List.getElem_cons_succ, List.getElem_cons_zero, List.setIfInBounds_toArray, List.set_cons_zero, List.set_cons_succ]
        refine hK.out _ _ (RB.out _ k2.out) (fun hH => ?_)
        clear hK K
        refine wpAnyH_ready (rs := [1]) (by kernel_rfl) (by simp) ?_
        refine AllReadyH.cons rfl (fun K hK => ?_) AllReadyH.nil
        · refine step_wanted (by rfl) (wp_call 45 _ _ (by rfl) enters_cloneV (by rfl) (cloneV_ok (.slice ao ds.length k) ds u2 ((HRD.out.grown (Lib.grownBy_trans G4.out k2.out))) HL.out.2 (by have := HL.out.1; omega)) ?_)
          rintro e u3 ⟨v', rfl, vv, vn, _, bb⟩
          have g3 := below_grown bb
          refine ⟨_, rfl, ?_⟩
          have v3 := Lib.hid (RdN.mk (N := w4.heap.size) vv fun g h => Nat.le_trans k2.out.size (vn g h))
          have k3 := Lib.hid (Lib.grownBy_trans k2.out g3)
          have m3 := Lib.hid (m2.out.kept g3 (by simp))
          have q3 := Lib.hid (q2.out.kept g3 (by simp))
          simp only [Act.put, List.getElem_toArray, List.getElem_cons_succ, List.getElem_cons_zero, List.setIfInBounds_toArray, List.set_cons_zero, List.set_cons_succ]
          refine hK.out _ _ (RB.out _ k3.out) (fun hH => ?_)
          clear hK K
          have hne := Lib.hid (show bm ≠ bs from by have := hlt.out; omega)
          obtain ⟨va, vc, rfl⟩ := v3.out.shape
          refine wpAnyH_ready (rs := [6]) (by kernel_rfl) (by simp) ?_
          refine AllReadyH.cons rfl (fun K hK => ?_) AllReadyH.nil
          refine step_wanted (by rfl) (wp_build_eq 84 _ (by rfl) [(0, .slice va ds.length vc), (1, .int .i64 tot), (2, .agg (forV c h r t).cells.toArray), (3, .map (some bm)), (4, .map (some bs))] (by kernel_rfl) _ (bTally va ds.length vc tot c h r t bm bs) ?_)
          simp only [Act.put, List.getElem_toArray, List.getElem_cons_succ, List.getElem_cons_zero, List.setIfInBounds_toArray, List.set_cons_zero, List.set_cons_succ]
          refine hK.out _ _ (RB.out _ k3.out) (fun hH => ?_)
          clear hK K
          refine wpAnyH_ready (rs := [7]) (by kernel_rfl) (by simp) ?_
          refine AllReadyH.cons rfl (fun K hK => ?_) AllReadyH.nil
          refine step_wanted (by rfl) (wp_box_as 84 _ (by rfl) _ (by rfl) ?_)
          intro w9 b9 g9 s9
          have NR := Lib.hid (newR_of k3.out v3.out m3.out q3.out hne.out lbm.out lbs.out b9 g9)
          have k9 := Lib.grownBy_trans k3.out g9
          obtain ⟨pp, hpp⟩ : ∃ p, u3.heap.size = p := ⟨_, rfl⟩
          rw [hpp] at NR ⊢
          simp only [Act.put, List.getElem_toArray, List.getElem_cons_succ, List.getElem_cons_zero, List.setIfInBounds_toArray, List.set_cons_zero, List.set_cons_succ]
          refine hK.out _ _ (RB.out _ k9) (fun hH => ?_)
          clear hK K b9 g9 s9
          refine wpAnyH_take (i := 8) (v := (.pointer (some ⟨pp, 0, none⟩))) rfl (by kernel_rfl) (by kernel_rfl) (by kernel_rfl) (fun _ _ _ h => h) (Or.inl ⟨by rfl, fun W _ => by go_simp⟩) hH ?_
          simp only [Act.put, List.getElem_toArray, List.getElem_cons_succ, List.getElem_cons_zero, List.setIfInBounds_toArray, List.set_cons_zero, List.set_cons_succ]
          refine wpAnyH_take (i := 9) (v := (.int .i64 0)) rfl (by kernel_rfl) (by kernel_rfl) (by kernel_rfl) (fun _ _ _ h => h) (Or.inl ⟨by rfl, fun W _ => by go_simp⟩) hH ?_
          simp only [Act.put, List.getElem_toArray, List.getElem_cons_succ, List.getElem_cons_zero, List.setIfInBounds_toArray, List.set_cons_zero, List.set_cons_succ]
          refine wpAnyH_done (by kernel_rfl) ?_ _
          go_wp2
          go_meet
          case rel => exact ⟨rfl, NR.out⟩
    · refine step_wanted (by rfl) (wp_makeMap 82 (by rfl) ?_)
      have g1 : u0.grownBy (u0.alloc (.map #[] 0)) none := World.grownBy_alloc _ _ none
      have q1 := Lib.hid (World.ownsMap_made u0 Tryd.prog 25 sumR)
      have k1 := Lib.hid (Lib.grownBy_trans k0.out g1)
      obtain ⟨bs, hbs⟩ : ∃ b, u0.heap.size = b := ⟨_, rfl⟩
      have lbs := Lib.hid (show w4.heap.size ≤ bs by have := k0.out.size; omega)
      rw [hbs] at q1 ⊢
      obtain ⟨u1, hu1⟩ : ∃ b, u0.alloc (.map #[] 0) = b := ⟨_, rfl⟩
      rw [hu1] at k1 q1 ⊢
      simp only [Act.put, List.getElem_toArray, List.getElem_cons_succ, List.getElem_cons_zero, List.setIfInBounds_toArray, List.set_cons_zero, List.set_cons_succ]
      refine hK.out _ _ (RB.out _ k1.out) (fun hH => ?_)
      clear hK K
      refine wpAnyH_ready (rs := [1, 4]) (by kernel_rfl) (by simp) ?_
      refine AllReadyH.cons rfl (fun K hK => ?_) (AllReadyH.cons rfl (fun K hK => ?_) AllReadyH.nil)
      · refine step_wanted (by rfl) (wp_call 45 _ _ (by rfl) enters_cloneV (by rfl) (cloneV_ok (.slice ao ds.length k) ds u1 ((HRD.out.grown (Lib.grownBy_trans G4.out k1.out))) HL.out.2 (by have := HL.out.1; omega)) ?_)
        rintro e u2 ⟨v', rfl, vv, vn, _, bb⟩
        have g2 := below_grown bb
        refine ⟨_, rfl, ?_⟩
        have v2 := Lib.hid (RdN.mk (N := w4.heap.size) vv fun g h => Nat.le_trans k1.out.size (vn g h))
        have k2 := Lib.hid (Lib.grownBy_trans k1.out g2)
        have q2 := Lib.hid (q1.out.kept g2 (by simp))
        simp only [Act.put, List.getElem_toArray, List.getElem_cons_succ, List.getElem_cons_zero, List.setIfInBounds_toArray, List.set_cons_zero, List.set_cons_succ]
        refine hK.out _ _ (RB.out _ k2.out) (fun hH => ?_)
        clear hK K
        refine wpAnyH_ready (rs := [4]) (by kernel_rfl) (by simp) ?_
        refine AllReadyH.cons rfl (fun K hK => ?_) AllReadyH.nil
        · refine step_wanted (by rfl) (wp_makeMap 81 (by rfl) ?_)
          have g3 : u2.grownBy (u2.alloc (.map #[] 0)) none := World.grownBy_alloc _ _ none
          have m3 := Lib.hid (World.ownsMap_made u2 Tryd.prog 22 heldR)
          have hlt := Lib.hid q2.out.lt
          have k3 := Lib.hid (Lib.grownBy_trans k2.out g3)
          have q3 := Lib.hid (q2.out.kept g3 (by simp))
          have v3 := Lib.hid ((v2.out.grown g3).mono g3.size)
          obtain ⟨bm, hbm⟩ : ∃ b, u2.heap.size = b := ⟨_, rfl⟩
          have lbm := Lib.hid (show w4.heap.size ≤ bm by have := k2.out.size; omega)
          rw [hbm] at m3 hlt ⊢
          obtain ⟨u3, hu3⟩ : ∃ b, u2.alloc (.map #[] 0) = b := ⟨_, rfl⟩
          rw [hu3] at k3 m3 q3 v3 ⊢
          simp only [Act.put, List.getElem_toArray, List.getElem_cons_succ, List.getElem_cons_zero, List.setIfInBounds_toArray, List.set_cons_zero, List.set_cons_succ]
          refine hK.out _ _ (RB.out _ k3.out) (fun hH => ?_)
          clear hK K
          have hne := Lib.hid (show bm ≠ bs from by have := hlt.out; omega)
          obtain ⟨va, vc, rfl⟩ := v3.out.shape
          refine wpAnyH_ready (rs := [6]) (by kernel_rfl) (by simp) ?_
          refine AllReadyH.cons rfl (fun K hK => ?_) AllReadyH.nil
          refine step_wanted (by rfl) (wp_build_eq 84 _ (by rfl) [(0, .slice va ds.length vc), (1, .int .i64 tot), (2, .agg (forV c h r t).cells.toArray), (3, .map (some bm)), (4, .map (some bs))] (by kernel_rfl) _ (bTally va ds.length vc tot c h r t bm bs) ?_)
          simp only [Act.put, List.getElem_toArray, List.getElem_cons_succ, List.getElem_cons_zero, List.setIfInBounds_toArray, List.set_cons_zero, List.set_cons_succ]
          refine hK.out _ _ (RB.out _ k3.out) (fun hH => ?_)
          clear hK K
          refine wpAnyH_ready (rs := [7]) (by kernel_rfl) (by simp) ?_
          refine AllReadyH.cons rfl (fun K hK => ?_) AllReadyH.nil
          refine step_wanted (by rfl) (wp_box_as 84 _ (by rfl) _ (by rfl) ?_)
          intro w9 b9 g9 s9
          have NR := Lib.hid (newR_of k3.out v3.out m3.out q3.out hne.out lbm.out lbs.out b9 g9)
          have k9 := Lib.grownBy_trans k3.out g9
          obtain ⟨pp, hpp⟩ : ∃ p, u3.heap.size = p := ⟨_, rfl⟩
          rw [hpp] at NR ⊢
          simp only [Act.put, List.getElem_toArray, List.getElem_cons_succ, List.getElem_cons_zero, List.setIfInBounds_toArray, List.set_cons_zero, List.set_cons_succ]
          refine hK.out _ _ (RB.out _ k9) (fun hH => ?_)
          clear hK K b9 g9 s9
          refine wpAnyH_take (i := 8) (v := (.pointer (some ⟨pp, 0, none⟩))) rfl (by kernel_rfl) (by kernel_rfl) (by kernel_rfl) (fun _ _ _ h => h) (Or.inl ⟨by rfl, fun W _ => by go_simp⟩) hH ?_
          simp only [Act.put, List.getElem_toArray, List.getElem_cons_succ, List.getElem_cons_zero, List.setIfInBounds_toArray, List.set_cons_zero, List.set_cons_succ]
          refine wpAnyH_take (i := 9) (v := (.int .i64 0)) rfl (by kernel_rfl) (by kernel_rfl) (by kernel_rfl) (fun _ _ _ h => h) (Or.inl ⟨by rfl, fun W _ => by go_simp⟩) hH ?_
          simp only [Act.put, List.getElem_toArray, List.getElem_cons_succ, List.getElem_cons_zero, List.setIfInBounds_toArray, List.set_cons_zero, List.set_cons_succ]
          refine wpAnyH_done (by kernel_rfl) ?_ _
          go_wp2
          go_meet
          case rel => exact ⟨rfl, NR.out⟩
      · refine step_wanted (by rfl) (wp_makeMap 81 (by rfl) ?_)
        have g2 : u1.grownBy (u1.alloc (.map #[] 0)) none := World.grownBy_alloc _ _ none
        have m2 := Lib.hid (World.ownsMap_made u1 Tryd.prog 22 heldR)
        have hlt := Lib.hid q1.out.lt
        have k2 := Lib.hid (Lib.grownBy_trans k1.out g2)
        have q2 := Lib.hid (q1.out.kept g2 (by simp))
        obtain ⟨bm, hbm⟩ : ∃ b, u1.heap.size = b := ⟨_, rfl⟩
        have lbm := Lib.hid (show w4.heap.size ≤ bm by have := k1.out.size; omega)
        rw [hbm] at m2 hlt ⊢
        obtain ⟨u2, hu2⟩ : ∃ b, u1.alloc (.map #[] 0) = b := ⟨_, rfl⟩
        rw [hu2] at k2 m2 q2 ⊢
        simp only [Act.put, List.getElem_toArray, List.getElem_cons_succ, List.getElem_cons_zero, List.setIfInBounds_toArray, List.set_cons_zero, List.set_cons_succ]
        refine hK.out _ _ (RB.out _ k2.out) (fun hH => ?_)
        clear hK K
        refine wpAnyH_ready (rs := [1]) (by kernel_rfl) (by simp) ?_
        refine AllReadyH.cons rfl (fun K hK => ?_) AllReadyH.nil
        · refine step_wanted (by rfl) (wp_call 45 _ _ (by rfl) enters_cloneV (by rfl) (cloneV_ok (.slice ao ds.length k) ds u2 ((HRD.out.grown (Lib.grownBy_trans G4.out k2.out))) HL.out.2 (by have := HL.out.1; omega)) ?_)
          rintro e u3 ⟨v', rfl, vv, vn, _, bb⟩
          have g3 := below_grown bb
          refine ⟨_, rfl, ?_⟩
          have v3 := Lib.hid (RdN.mk (N := w4.heap.size) vv fun g h => Nat.le_trans k2.out.size (vn g h))
          have k3 := Lib.hid (Lib.grownBy_trans k2.out g3)
          have q3 := Lib.hid (q2.out.kept g3 (by simp))
          have m3 := Lib.hid (m2.out.kept g3 (by simp))
          simp only [Act.put, List.getElem_toArray, List.getElem_cons_succ, List.getElem_cons_zero, List.setIfInBounds_toArray, List.set_cons_zero, List.set_cons_succ]
          refine hK.out _ _ (RB.out _ k3.out) (fun hH => ?_)
          clear hK K
          have hne := Lib.hid (show bm ≠ bs from by have := hlt.out; omega)
          obtain ⟨va, vc, rfl⟩ := v3.out.shape
          refine wpAnyH_ready (rs := [6]) (by kernel_rfl) (by simp) ?_
          refine AllReadyH.cons rfl (fun K hK => ?_) AllReadyH.nil
          refine step_wanted (by rfl) (wp_build_eq 84 _ (by rfl) [(0, .slice va ds.length vc), (1, .int .i64 tot), (2, .agg (forV c h r t).cells.toArray), (3, .map (some bm)), (4, .map (some bs))] (by kernel_rfl) _ (bTally va ds.length vc tot c h r t bm bs) ?_)
          simp only [Act.put, List.getElem_toArray, List.getElem_cons_succ, List.getElem_cons_zero, List.setIfInBounds_toArray, List.set_cons_zero, List.set_cons_succ]
          refine hK.out _ _ (RB.out _ k3.out) (fun hH => ?_)
          clear hK K
          refine wpAnyH_ready (rs := [7]) (by kernel_rfl) (by simp) ?_
          refine AllReadyH.cons rfl (fun K hK => ?_) AllReadyH.nil
          refine step_wanted (by rfl) (wp_box_as 84 _ (by rfl) _ (by rfl) ?_)
          intro w9 b9 g9 s9
          have NR := Lib.hid (newR_of k3.out v3.out m3.out q3.out hne.out lbm.out lbs.out b9 g9)
          have k9 := Lib.grownBy_trans k3.out g9
          obtain ⟨pp, hpp⟩ : ∃ p, u3.heap.size = p := ⟨_, rfl⟩
          rw [hpp] at NR ⊢
          simp only [Act.put, List.getElem_toArray, List.getElem_cons_succ, List.getElem_cons_zero, List.setIfInBounds_toArray, List.set_cons_zero, List.set_cons_succ]
          refine hK.out _ _ (RB.out _ k9) (fun hH => ?_)
          clear hK K b9 g9 s9
          refine wpAnyH_take (i := 8) (v := (.pointer (some ⟨pp, 0, none⟩))) rfl (by kernel_rfl) (by kernel_rfl) (by kernel_rfl) (fun _ _ _ h => h) (Or.inl ⟨by rfl, fun W _ => by go_simp⟩) hH ?_
          simp only [Act.put, List.getElem_toArray, List.getElem_cons_succ, List.getElem_cons_zero, List.setIfInBounds_toArray, List.set_cons_zero, List.set_cons_succ]
          refine wpAnyH_take (i := 9) (v := (.int .i64 0)) rfl (by kernel_rfl) (by kernel_rfl) (by kernel_rfl) (fun _ _ _ h => h) (Or.inl ⟨by rfl, fun W _ => by go_simp⟩) hH ?_
          simp only [Act.put, List.getElem_toArray, List.getElem_cons_succ, List.getElem_cons_zero, List.setIfInBounds_toArray, List.set_cons_zero, List.set_cons_succ]
          refine wpAnyH_done (by kernel_rfl) ?_ _
          go_wp2
          go_meet
          case rel => exact ⟨rfl, NR.out⟩
  go_wp2_with fail
  obtain ⟨rfl, p, bm, bs, rfl, gw, tl, l1, l2, l3, m1, m2, sv, bsv, nsv⟩ := hcut
  have z := G4.out.size
  go_ret2
  exact ⟨p, bm, bs, rfl, Lib.grownBy_trans G4.out gw, tl, by omega, by omega, by omega, m1, m2, sv, bsv, fun g hg => Nat.le_trans z (nsv g hg)⟩

end Go.Proofs.YtfnginmoiecgnaaDoor
