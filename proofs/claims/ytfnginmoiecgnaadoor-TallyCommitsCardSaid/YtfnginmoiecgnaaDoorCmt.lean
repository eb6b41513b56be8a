/- Walk: Tally.Twice, Tally.Commit. Plain: the votes by their keys, the commit. -/
import Derived.Test.YtfnginmoiecgnaaDoorVs5
import Derived.Test.YtfnginmoiecgnaaDoorTl2
namespace Go.Proofs.YtfnginmoiecgnaaDoor
open Go.RowKit Go.Maps
open Go.Shelf
set_option maxRecDepth 100000

/-! plain -/
/-- the votes that count, by their keys -/
def TD.votes (T : TD) : List VoteD := T.cnt.mergeSort fun a b => decide (a.key ≤ b.key)
theorem vkey_inj : ∀ {l : List VoteD}, (l.map (·.key)).Nodup → ∀ {a b : VoteD}, a ∈ l → b ∈ l → a.key = b.key → a = b
  | [], _, _, _, ha, _, _ => by cases ha
  | x :: l, hn, a, b, ha, hb, e => by
    rw [List.map_cons, List.nodup_cons] at hn
    rcases List.mem_cons.1 ha with ha' | ha' <;> rcases List.mem_cons.1 hb with hb' | hb'
    · rw [ha', hb']
    · exact absurd (List.mem_map.2 ⟨b, hb', by rw [← e, ha']⟩) hn.1
    · exact absurd (List.mem_map.2 ⟨a, ha', by rw [e, hb']⟩) hn.1
    · exact vkey_inj hn.2 ha' hb' e
theorem nodup_of_keys {l : List VoteD} (h : (l.map (·.key)).Nodup) : l.Nodup := by
  rw [List.Nodup, List.pairwise_map] at h
  exact h.imp fun {a b} h e => h (by rw [e])
theorem votes_perm (T : TD) : T.votes.Perm T.cnt := List.mergeSort_perm _ _
theorem votes_mem (T : TD) (u : VoteD) : u ∈ T.votes ↔ u ∈ T.cnt := (votes_perm T).mem_iff
theorem votes_le (T : TD) : T.votes.Pairwise fun a b => a.key ≤ b.key := by
  have := List.pairwise_mergeSort (le := fun a b : VoteD => decide (a.key ≤ b.key)) (fun a b c h1 h2 => by simp at *; omega) (fun a b => by simp; omega) T.cnt
  exact this.imp fun h => by simpa using h
theorem votes_lt {T : TD} (h : T.ok) : T.votes.Pairwise fun a b => a.key < b.key := by
  have hn : (T.votes.map (·.key)).Nodup := (((votes_perm T).map _).nodup_iff).2 h.keys
  rw [List.Nodup, List.pairwise_map] at hn
  exact ((votes_le T).and hn).imp fun {a b} ⟨h1, h2⟩ => by omega
theorem rising_one {xs ys : List VoteD} (hx : xs.Pairwise fun a b => a.key < b.key) (hy : ys.Pairwise fun a b => a.key < b.key) (h : ∀ u, u ∈ xs ↔ u ∈ ys) : xs = ys := by
  have nx : xs.Nodup := hx.imp fun {a b} h e => by rw [e] at h; omega
  have ny : ys.Nodup := hy.imp fun {a b} h e => by rw [e] at h; omega
  have hp : xs.Perm ys := (List.perm_ext_iff_of_nodup nx ny).2 h
  have kx : (xs.map (·.key)).Nodup := by rw [List.Nodup, List.pairwise_map]; exact hx.imp fun h e => by omega
  refine List.Perm.eq_of_pairwise (le := fun a b : VoteD => a.key ≤ b.key) (fun a b ha hb h1 h2 => vkey_inj kx ha ((h b).2 hb) (by omega)) (hx.imp fun h => by omega) (hy.imp fun h => by omega) hp
def VoteD.seal (u : VoteD) : SealD := ⟨u.key, u.r, u.s⟩
def sealsOf (l : List VoteD) (x : List UInt8) : List SealD := (forX l x).map VoteD.seal
def TD.commit (T : TD) : Option CommitD := match T.win with
  | none => none
  | some x => if VEq (Lib.byteCells x) ZH = true then none else if T.of.type = 2 then some ⟨T.of.height, T.of.round, x, sealsOf T.votes x⟩ else none
theorem sealsOf_snoc (l : List VoteD) (x : List UInt8) (u : VoteD) : sealsOf (l ++ [u]) x = if u.block = x then sealsOf l x ++ [u.seal] else sealsOf l x := by
  unfold sealsOf forX
  rw [List.filter_append, List.map_append]
  by_cases h : u.block = x <;> simp [h]
theorem sealsOf_len (l : List VoteD) (x : List UInt8) : (sealsOf l x).length ≤ l.length := by
  unfold sealsOf forX
  rw [List.length_map]
  exact List.length_filter_le _ _
theorem sealCells_app (a b : List SealD) : sealCells (a ++ b) = sealCells a ++ sealCells b := by simp [sealCells]
theorem seal_wf {u : VoteD} (h : u.wf) : u.seal.wf := ⟨h.key, h.r, h.s⟩
theorem commit_wf {T : TD} (h : T.ok) {c : CommitD} (hc : T.commit = some c) : c.wf := by
  unfold TD.commit at hc
  cases hw : T.win with
  | none => rw [hw] at hc; cases hc
  | some x =>
    rw [hw] at hc
    dsimp only at hc
    split at hc
    · cases hc
    · split at hc
      · injection hc with hc
        subst hc
        refine ⟨h.of.height, h.of.round, ?_, fun s hs => ?_⟩
        · unfold TD.win at hw
          obtain ⟨u, hu, hb⟩ := Option.map_eq_some_iff.1 hw
          rw [← hb]
          exact (h.cnt u (List.mem_of_find?_eq_some hu)).block
        · obtain ⟨u, hu, rfl⟩ := List.mem_map.1 hs
          exact seal_wf (h.cnt u ((votes_mem T u).1 (List.mem_filter.1 hu).1))
      · cases hc
theorem commit_len {T : TD} {c : CommitD} (hc : T.commit = some c) : c.seals.length ≤ T.cnt.length := by
  unfold TD.commit at hc
  cases hw : T.win with
  | none => rw [hw] at hc; cases hc
  | some x =>
    rw [hw] at hc
    dsimp only at hc
    split at hc
    · cases hc
    · split at hc
      · injection hc with hc
        subst hc
        have := sealsOf_len T.votes x
        rw [(votes_perm T).length_eq] at this
        exact this
      · cases hc

/-! Votes, Twice -/
theorem VotesO {w : World} {p bm bs : Nat} {sv tv : Value} {T : TD} (hT : T.ok) (h : TlRep w p bm bs sv tv T) (hsz : T.cnt.length ≤ 1000) :
    Calls Tryd.prog 32 #[.pointer (some ⟨p, 0, none⟩)] w fun e w' => ∃ v, e = .returned v ∧ w'.ownsRow w.heap.size 29 39 v T.votes.length (vsCells T.votes) ∧ w.grownBy w' none := by
  refine (VotesT hT h hsz).mono ?_
  rintro e w' ⟨v, ys, rfl, h1, h2, h3, h4⟩
  have : ys = T.votes := rising_one h2 (votes_lt hT) fun u => (h1 u).trans (votes_mem T u).symm
  subst this
  exact ⟨v, rfl, h3, h4⟩
def cloneRenV : Go.Shelf.Ren := ⟨fun | 41 => 52 | n => n, fun | 4 => 4 | 3 => 3 | 22 => 41 | 23 => 29 | n => n, fun | n => n⟩
theorem cloneLaysV : SlLaysE0.n41 Tryd.prog cloneRenV := {
  mixed := by kernel_rfl
  f41 := ⟨Tryd.f52.name, by decide +kernel, Tryd.func52.trans (congrArg some (by kernel_rfl))⟩
  t4 := Tryd.underlying4
  a4 := Tryd.isAgg4
  z4 := Tryd.sizeOf4
  v4 := Tryd.zeroValue4
  t22 := Tryd.underlying41
  a22 := Tryd.isAgg41
  z22 := Tryd.sizeOf41
  v22 := Tryd.zeroValue41 }
noncomputable def voteI : TypeInfo := (Tryd.prog.info? 29).get (by kernel_rfl)
theorem vsCells_one (ds : List VoteD) : ∀ u ∈ vsCells ds, u.oneCell' = true := by
  intro u hu
  obtain ⟨d, _, hd⟩ := List.mem_flatMap.1 hu
  exact VoteD_one d u hd
theorem cloneVotes {w : World} {v : Value} {l : List VoteD} (h : w.ownsRow 0 29 39 v l.length (vsCells l)) (hl : l.length ≤ 3000) :
    Calls Tryd.prog 52 #[v] w fun e w' => ∃ v', e = .returned v' ∧ w'.ownsRow w.heap.size 29 39 v' l.length (vsCells l) ∧ w.grownBy w' none := by
  obtain ⟨h0, ⟨rfl, hn⟩ | ⟨g, cap, cur, rfl, hB, hb, h1, h2, h3, ht⟩⟩ := id h
  · have hx : l = [] := List.length_eq_zero_iff.1 hn
    subst hx
    exact (AnyE.slices_Clone_nil cloneLaysV 0 0 w).mono fun e w' ⟨he, hw⟩ => ⟨_, he, by rw [hw]; exact ⟨rfl, .inl ⟨rfl, rfl⟩⟩, by rw [hw]; exact World.grownBy.refl _ _⟩
  · refine (AnyE.slices_Clone cloneLaysV voteI (.agg ZVote.toArray) 39 96 (by kernel_rfl) (by kernel_rfl) (by kernel_rfl) (by kernel_rfl) rfl (by decide) Tryd.sizeOf29 g 0 l.length cap (vsCells l) w h0 (Nat.le_trans hl (by decide)) (Nat.le_trans (Nat.mul_le_mul_right 96 hl) (by decide)) (fun j u hj => ?_) (vsCells_one l)).mono ?_
    · have := h.cells (g := g) rfl j u hj
      rw [Nat.zero_add]
      have e2 : (⟨g, 0, none⟩ : Addr).add j = ⟨g, j, none⟩ := by unfold Addr.add; split <;> simp_all
      rwa [e2] at this
    · rintro e w' ⟨v', rfl, ho, _, hb⟩
      exact ⟨v', rfl, ho, ⟨hb.os, hb.tape, hb.output, hb.size, fun k hk _ => hb.block k hk⟩⟩

set_option maxHeartbeats 1000000 in
theorem TwiceT {w : World} {p bm bs : Nat} {sv tv : Value} {T : TD} (hT : T.ok) (h : TlRep w p bm bs sv tv T) (hsz : T.both.length ≤ 3000) :
    Calls Tryd.prog 29 #[.pointer (some ⟨p, 0, none⟩)] w fun e w' => ∃ v, e = .returned v ∧ w'.ownsRow w.heap.size 29 39 v T.both.length (vsCells T.both) ∧ w.grownBy w' none := by
  have c1 := h.blk.row 44 _ (tl_tail hT.of 3)
  rw [Nat.zero_add] at c1
  have CC := Lib.hid (cloneVotes h.twice hsz)
  have ht := h.twice
  obtain ⟨ta, tn, tc, hvs⟩ : ∃ a b c, tv = .slice a b c := by rcases ht.2 with ⟨h, _⟩ | ⟨g, cap, cur, h, _⟩ <;> exact ⟨_, _, _, h⟩
  subst hvs
  clear h hT hsz ht
  go_enter Tryd.func29, Tryd.ntmps29
  go_wp2_with fail
  refine CC.out.mono ?_
  rintro e w' ⟨v, rfl, h1, h2⟩
  have H1 := Lib.hid h1; have H2 := Lib.hid h2
  obtain ⟨va, vn, vc, hvs⟩ : ∃ a b c, v = .slice a b c := by rcases h1.2 with ⟨h, _⟩ | ⟨g, cap, cur, h, _⟩ <;> exact ⟨_, _, _, h⟩
  subst hvs
  clear h1 h2
  go_wp2_with fail
  go_ret
  exact ⟨_, rfl, H1.out, H2.out⟩

/-! Commit -/
def CommitP (c? : Option CommitD) (w : World) (e : Ending) (w' : World) : Prop := w.grownBy w' none ∧ match c? with
  | none => e = .returned (.tuple #[.agg ZCommit.toArray, .int .i64 158])
  | some c => ∃ cs, e = .returned (.tuple #[.agg cs.toArray, .int .i64 0]) ∧ c.own w.heap.size w' cs
theorem ZCommit_length : ZCommit.length = 35 := by simp [ZCommit, Lib.byteCells_length]
theorem sizeCommitZ : (Tryd.prog.info? 54).map (·.size) = some ZCommit.length := by rw [ZCommit_length]; exact sizeCommit
theorem bCommit0 : Tryd.prog.built 54 [] = some ZCommit.toArray := by kernel_rfl
theorem tl_hr {w : World} {p : Nat} {sv : Value} {tot : Int} {of : VoteD} {bm bs : Nat} {all : Int} {tv : Value} (hv : of.wf) (h : RowAt w p 0 (tlCells sv tot of bm bs all tv)) : w.cell? ⟨p, 3, none⟩ = some (.int .i64 of.height) ∧ w.cell? ⟨p, 4, none⟩ = some (.int .i64 of.round) ∧ w.cell? ⟨p, 5, none⟩ = some (.int .i64 of.type) := by
  have a := VoteD.At.of_row hv (tl_of hv h)
  exact ⟨a.height, a.round, a.type⟩
theorem run_build_op {P : Program} {o : Oper} {a : Act} {w : World} (t : TypeId) (parts : Array (Nat × Operand)) (ho : o.op = .build t parts)
    (ps : List (Nat × Value)) (hp : (parts.map fun (i, x) => (i, a.eval x)).toList = ps) (cs : List Value) (hb : P.built t ps = some cs.toArray) : (execOp a.eval o).run P w = .ok (.value (.agg cs.toArray)) w := by
  have hb' : P.built t (parts.map fun (i, x) => (i, a.eval x)).toList = some cs.toArray := by rw [hp]; exact hb
  unfold execOp
  simp only [ho, Sem.run_bind, run_build w t _ _ hb', Result.andThen_ok, Sem.run_pure]
set_option maxHeartbeats 8000000 in
theorem CommitT {w : World} {p bm bs : Nat} {sv tv : Value} {T : TD} (hT : T.ok) (h : TlRep w p bm bs sv tv T) (hsz : T.cnt.length ≤ 1000) :
    Calls Tryd.prog 30 #[.pointer (some ⟨p, 0, none⟩)] w (CommitP T.commit w) := by
  have HT := Lib.hid hT; have HSz := Lib.hid hsz; have TL := Lib.hid h
  clear hT h hsz
  go_enter Tryd.func30, Tryd.ntmps30
  go_wp2_with (refine wpList_alloc_as rfl 54 rfl ZCommit ZCommit_info ?_)
  intro w1 b1 g1 s1
  obtain ⟨b, hb⟩ : ∃ b, w.heap.size = b := ⟨_, rfl⟩
  have HB := Lib.hid hb
  rw [hb] at b1 s1 ⊢
  have B1 := Lib.hid b1; have G1 := Lib.hid g1; have TL1 := Lib.hid (TL.out.grown g1)
  clear b1 g1 s1 hb
  have CW := Lib.hid (WinnerT HT.out TL1.out)
  go_wp2_with fail
  refine CW.out.mono ?_
  rintro e w2 ⟨rfl, g2⟩
  have B2 := Lib.hid (B1.out.grown g2 (by simp)); have G2 := Lib.hid (Lib.grownBy_trans G1.out g2); have TL2 := Lib.hid (TL1.out.grown g2)
  clear g2 CW B1 G1 TL1
  go_wp2_with (refine wpList_alloc_as rfl 25 rfl ZH ZH_info ?_)
  intro w3 b3 g3 s3
  obtain ⟨c, hc⟩ : ∃ b, w2.heap.size = b := ⟨_, rfl⟩
  have HC := Lib.hid (show b < c from by have := B2.out.lt; omega)
  have TLb := Lib.hid (show p ≠ c ∧ bm ≠ c ∧ bs ≠ c ∧ (∀ g, sv.ownBlock = some g → g ≠ c) ∧ (∀ g, tv.ownBlock = some g → g ≠ c) from by
    have h := TL2.out
    obtain ⟨_, _, _, hD, _⟩ := h.votes
    obtain ⟨_, _, _, hE, _⟩ := h.sums
    have h1 := h.blk.lt; have h2 := hD.lt; have h3 := hE.lt
    refine ⟨by omega, by omega, by omega, fun g hg => ?_, fun g hg => by have := ownsRow.lt h.twice hg; omega⟩
    obtain ⟨ao, q, rfl, _, _, _, ⟨rfl, _⟩ | ⟨g', o, rfl, hlt, _⟩⟩ := h.set
    · simp [Value.ownBlock] at hg
    · simp [Value.ownBlock] at hg; omega)
  rw [hc] at b3 s3 ⊢
  have B3 := Lib.hid (B2.out.grown g3 (by simp)); have C3 := Lib.hid b3; have G3 := Lib.hid (Lib.grownBy_trans G2.out g3); have TL3 := Lib.hid (TL2.out.grown g3)
  have HCs := Lib.hid (show w.heap.size ≤ c from by rw [HB.out]; exact Nat.le_of_lt HC.out)
  clear b3 g3 s3 hc B2 G2 TL2
  have hwl := Lib.hid (winC_len HT.out)
  go_wp2_with (refine wpList_store_whole rfl 25 _ _ rfl c rfl (winC T.win) ZH 25 rfl C3.out (by rw [hwl.out]; rfl) (winC_one _) (by rw [hwl.out]; kernel_rfl) ?_)
  intro w4 g4 s4 b4
  have B4 := Lib.hid (B3.out.grown g4 (by have := HC.out; simp; omega)); have C4 := Lib.hid b4; have G4 := Lib.hid (grown_new G3.out g4 HCs.out)
  have TL4 := Lib.hid (TL3.out.kp (S := fun i => i = c) (Kp.of g4 (fun i e _ => by cases e; rfl)) TLb.out.1 TLb.out.2.1 TLb.out.2.2.1 (fun g h => TLb.out.2.2.2.1 g h) (fun g h => TLb.out.2.2.2.2 g h))
  clear b4 g4 s4 B3 C3 G3 TL3 TLb
  cases hw : T.win with
  | none =>
    have HN := Lib.hid (show T.commit = none by unfold TD.commit; rw [hw])
    clear hw
    go_wp2_with (first | (refine wpList_build_eq rfl 54 _ rfl [] (by kernel_rfl) ZCommit bCommit0 ?_) | (refine wpList_store_whole rfl 54 _ _ rfl b rfl ZCommit ZCommit 54 rfl B4.out rfl ZCommit_one sizeCommitZ ?_))
    intro w5 g5 s5 b5
    have B5 := Lib.hid b5; have G5 := Lib.hid (grown_new G4.out g5 (by rw [HB.out]; exact Nat.le_refl _))
    clear b5 g5 s5
    go_wp2_with fail
    refine bodyPost_ret (results_cell_tmp rfl _ _ ⟨b, 0, none⟩ _ _ rfl rfl (run_loadVar_part _ _ _ 54 ZCommit _ B5.out.row Tryd.underlying54 rfl sizeCommitZ)) rfl ?_
    rw [HN.out]
    exact ⟨G5.out, rfl⟩
  | some x =>
    have hxl := Lib.hid (win_len HT.out hw)
    have HW := Lib.hid hw
    rw [hw] at C4
    have C4 := Lib.hid (show Blk w4 c (Lib.byteCells x) 25 from C4.out)
    obtain ⟨z0, hz0⟩ : ∃ z, VEq (Lib.byteCells x) ZH = z := ⟨_, rfl⟩
    have HZ0 := Lib.hid hz0
    have HFz := Lib.hid (show Fits kHash ZH = true by decide +kernel)
    have hcs := tl_hr HT.out.of TL4.out.blk.row
    obtain ⟨ty, hty⟩ : ∃ t, T.of.type = t := ⟨_, rfl⟩
    have HTy := Lib.hid hty
    have c5 := hcs.2.2
    rw [hty] at c5
    clear hw hz0 hcs hty
    cases hzz : z0 with
    | true =>
      have HN := Lib.hid (show T.commit = none by unfold TD.commit; rw [HW.out]; dsimp only; rw [HZ0.out, hzz]; rfl)
      subst hzz
      go_wp2_with (first | (refine wpList_load_part rfl 25 _ rfl c 0 rfl (Lib.byteCells x) _ C4.out.row Tryd.underlying25 rfl (sizeH _ (by rw [Lib.byteCells_length, hxl.out])) ?_) | (refine wpList_build_eq rfl 25 _ rfl [] (by kernel_rfl) ZH bHash0 ?_) | (refine wpList_eql_flat rfl 25 _ _ _ rfl (Lib.byteCells x) ZH kHash rfl rfl hash_flat (hash_fits _ hxl.out) HFz.out rfl (by kernel_rfl) ?_; rw [HZ0.out]) | (refine wpList_build_eq rfl 54 _ rfl [] (by kernel_rfl) ZCommit bCommit0 ?_) | (refine wpList_store_whole rfl 54 _ _ rfl b rfl ZCommit ZCommit 54 rfl B4.out rfl ZCommit_one sizeCommitZ ?_))
      intro w5 g5 s5 b5
      have B5 := Lib.hid b5; have G5 := Lib.hid (grown_new G4.out g5 (by rw [HB.out]; exact Nat.le_refl _))
      clear b5 g5 s5
      go_wp2_with fail
      refine bodyPost_ret (results_cell_tmp rfl _ _ ⟨b, 0, none⟩ _ _ rfl rfl (run_loadVar_part _ _ _ 54 ZCommit _ B5.out.row Tryd.underlying54 rfl sizeCommitZ)) rfl ?_
      rw [HN.out]
      exact ⟨G5.out, rfl⟩
    | false =>
      cases ht2 : (ty != 2) with
      | true =>
        have HN := Lib.hid (show T.commit = none by unfold TD.commit; rw [HW.out]; dsimp only; rw [HZ0.out, hzz, if_neg (by simp), if_neg (by rw [HTy.out]; simpa using ht2)])
        subst hzz
        go_wp2_with (first | (refine wpList_load_part rfl 25 _ rfl c 0 rfl (Lib.byteCells x) _ C4.out.row Tryd.underlying25 rfl (sizeH _ (by rw [Lib.byteCells_length, hxl.out])) ?_) | (refine wpList_build_eq rfl 25 _ rfl [] (by kernel_rfl) ZH bHash0 ?_) | (refine wpList_eql_flat rfl 25 _ _ _ rfl (Lib.byteCells x) ZH kHash rfl rfl hash_flat (hash_fits _ hxl.out) HFz.out rfl (by kernel_rfl) ?_; rw [HZ0.out]) | (refine wpList_build_eq rfl 54 _ rfl [] (by kernel_rfl) ZCommit bCommit0 ?_) | (refine wpList_store_whole rfl 54 _ _ rfl b rfl ZCommit ZCommit 54 rfl B4.out rfl ZCommit_one sizeCommitZ ?_))
        intro w5 g5 s5 b5
        have B5 := Lib.hid b5; have G5 := Lib.hid (grown_new G4.out g5 (by rw [HB.out]; exact Nat.le_refl _))
        clear b5 g5 s5
        go_wp2_with fail
        refine bodyPost_ret (results_cell_tmp rfl _ _ ⟨b, 0, none⟩ _ _ rfl rfl (run_loadVar_part _ _ _ 54 ZCommit _ B5.out.row Tryd.underlying54 rfl sizeCommitZ)) rfl ?_
        rw [HN.out]
        exact ⟨G5.out, rfl⟩
      | false =>
        have HCm := Lib.hid (show T.commit = some ⟨T.of.height, T.of.round, x, sealsOf T.votes x⟩ by unfold TD.commit; rw [HW.out]; dsimp only; rw [HZ0.out, hzz, if_neg (by simp), if_pos (by rw [HTy.out]; simpa using ht2)])
        subst hzz
        go_upto_region 6 with (first | (refine wpList_load_part rfl 25 _ rfl c 0 rfl (Lib.byteCells x) _ C4.out.row Tryd.underlying25 rfl (sizeH _ (by rw [Lib.byteCells_length, hxl.out])) ?_) | (refine wpList_build_eq rfl 25 _ rfl [] (by kernel_rfl) ZH bHash0 ?_) | (refine wpList_eql_flat rfl 25 _ _ _ rfl (Lib.byteCells x) ZH kHash rfl rfl hash_flat (hash_fits _ hxl.out) HFz.out rfl (by kernel_rfl) ?_; rw [HZ0.out]))
        clear c5 ht2
        obtain ⟨hh, hhe⟩ : ∃ x, T.of.height = x := ⟨_, rfl⟩
        obtain ⟨rr, hre⟩ : ∃ x, T.of.round = x := ⟨_, rfl⟩
        have KF := Lib.hid (show ∀ W, w4.grownBy W none → W.cell? ⟨p, 3, none⟩ = some (.int .i64 hh) ∧ W.cell? ⟨p, 4, none⟩ = some (.int .i64 rr) ∧ RowAt W c 0 (Lib.byteCells x) from fun W g => by
          have a := tl_hr HT.out.of (TL4.out.blk.grown g (by simp)).row
          rw [hhe, hre] at a
          exact ⟨a.1, a.2.1, (C4.out.grown g (by simp)).row⟩)
        have HhE := Lib.hid hhe; have HrE := Lib.hid hre
        rw [hhe, hre] at HCm
        clear hhe hre
        obtain ⟨d, hd⟩ : ∃ q, w4.heap.size = q := ⟨_, rfl⟩
        have HD := Lib.hid (show c < d from by rw [← hd]; exact C4.out.lt)
        have HDe := Lib.hid hd
        clear hd
        have k0 := dr_grown w4 1
        have hcl := Lib.hid (commitV_len hh rr x (.slice none 0 0) hxl.out)
        go_cut [6] from 33 (fun s6 w' => s6 = .pointer (some ⟨d, 0, none⟩) ∧ Blk w' d (commitV hh rr x (.slice none 0 0)) 54 ∧ w4.grownBy w' none)
        case first =>
          refine wp_region_held_drew (S := fun W => W.cell? ⟨p, 3, none⟩ = some (.int .i64 hh) ∧ W.cell? ⟨p, 4, none⟩ = some (.int .i64 rr) ∧ RowAt W c 0 (Lib.byteCells x)) (by kernel_rfl) (KF.out _ k0) (fun hH => ?_)
          refine wpAnyH_take (i := 0) (v := (.pointer (some ⟨p, 0, none⟩))) rfl (by kernel_rfl) (by kernel_rfl) (by kernel_rfl) (fun _ _ _ h => h) (Or.inl ⟨by rfl, fun W hS => by go_simp⟩) hH ?_
          simp only [Act.put, List.getElem_toArray, List.getElem_cons_zero, List.setIfInBounds_toArray, List.set_cons_zero, List.set_cons_succ]
          refine wpAnyH_take (i := 1) (v := (.pointer (some ⟨p, 0, none⟩))) rfl (by kernel_rfl) (by kernel_rfl) (by kernel_rfl) (fun _ _ _ h => h) (Or.inl ⟨by rfl, fun W hS => by go_simp⟩) hH ?_
          simp only [Act.put, List.getElem_toArray, List.getElem_cons_succ, List.getElem_cons_zero, List.setIfInBounds_toArray, List.set_cons_zero, List.set_cons_succ]
          refine wpAnyH_take (i := 2) (v := (.pointer (some ⟨p, 2, none⟩))) rfl (by kernel_rfl) (by kernel_rfl) (by kernel_rfl) (fun _ _ _ h => h) (Or.inl ⟨by rfl, fun W hS => by go_simp⟩) hH ?_
          simp only [Act.put, List.getElem_toArray, List.getElem_cons_succ, List.getElem_cons_zero, List.setIfInBounds_toArray, List.set_cons_zero, List.set_cons_succ]
          refine wpAnyH_take (i := 3) (v := (.pointer (some ⟨p, 3, none⟩))) rfl (by kernel_rfl) (by kernel_rfl) (by kernel_rfl) (fun _ _ _ h => h) (Or.inl ⟨by rfl, fun W hS => by go_simp⟩) hH ?_
          simp only [Act.put, List.getElem_toArray, List.getElem_cons_succ, List.getElem_cons_zero, List.setIfInBounds_toArray, List.set_cons_zero, List.set_cons_succ]
          refine wpAnyH_take (i := 4) (v := (.int .i64 hh)) rfl (by kernel_rfl) (by kernel_rfl) (by kernel_rfl) (fun _ _ _ h => h) (Or.inl ⟨by rfl, fun W hS => by have c := hS.1; go_simp⟩) hH ?_
          simp only [Act.put, List.getElem_toArray, List.getElem_cons_succ, List.getElem_cons_zero, List.setIfInBounds_toArray, List.set_cons_zero, List.set_cons_succ]
          refine wpAnyH_take (i := 5) (v := (.pointer (some ⟨p, 0, none⟩))) rfl (by kernel_rfl) (by kernel_rfl) (by kernel_rfl) (fun _ _ _ h => h) (Or.inl ⟨by rfl, fun W hS => by go_simp⟩) hH ?_
          simp only [Act.put, List.getElem_toArray, List.getElem_cons_succ, List.getElem_cons_zero, List.setIfInBounds_toArray, List.set_cons_zero, List.set_cons_succ]
          refine wpAnyH_take (i := 6) (v := (.pointer (some ⟨p, 0, none⟩))) rfl (by kernel_rfl) (by kernel_rfl) (by kernel_rfl) (fun _ _ _ h => h) (Or.inl ⟨by rfl, fun W hS => by go_simp⟩) hH ?_
          simp only [Act.put, List.getElem_toArray, List.getElem_cons_succ, List.getElem_cons_zero, List.setIfInBounds_toArray, List.set_cons_zero, List.set_cons_succ]
          refine wpAnyH_take (i := 7) (v := (.pointer (some ⟨p, 2, none⟩))) rfl (by kernel_rfl) (by kernel_rfl) (by kernel_rfl) (fun _ _ _ h => h) (Or.inl ⟨by rfl, fun W hS => by go_simp⟩) hH ?_
          simp only [Act.put, List.getElem_toArray, List.getElem_cons_succ, List.getElem_cons_zero, List.setIfInBounds_toArray, List.set_cons_zero, List.set_cons_succ]
          refine wpAnyH_take (i := 8) (v := (.pointer (some ⟨p, 4, none⟩))) rfl (by kernel_rfl) (by kernel_rfl) (by kernel_rfl) (fun _ _ _ h => h) (Or.inl ⟨by rfl, fun W hS => by go_simp⟩) hH ?_
          simp only [Act.put, List.getElem_toArray, List.getElem_cons_succ, List.getElem_cons_zero, List.setIfInBounds_toArray, List.set_cons_zero, List.set_cons_succ]
          refine wpAnyH_take (i := 9) (v := (.int .i64 rr)) rfl (by kernel_rfl) (by kernel_rfl) (by kernel_rfl) (fun _ _ _ h => h) (Or.inl ⟨by rfl, fun W hS => by have c := hS.2.1; go_simp⟩) hH ?_
          simp only [Act.put, List.getElem_toArray, List.getElem_cons_succ, List.getElem_cons_zero, List.setIfInBounds_toArray, List.set_cons_zero, List.set_cons_succ]
          refine wpAnyH_take (i := 10) (v := (.agg (Lib.byteCells x).toArray)) rfl (by kernel_rfl) (by kernel_rfl) (by kernel_rfl) (fun _ _ _ h => h) (yieldsIf_load_mid (by rfl) 25 _ rfl c 0 rfl (Lib.byteCells x) _ (fun W h => h.2.2) Tryd.underlying25 rfl (sizeH _ (by rw [Lib.byteCells_length, hxl.out]))) hH ?_
          simp only [Act.put, List.getElem_toArray, List.getElem_cons_succ, List.getElem_cons_zero, List.setIfInBounds_toArray, List.set_cons_zero, List.set_cons_succ]
          refine wpAnyH_take (i := 11) (v := (.agg (commitV hh rr x (.slice none 0 0)).toArray)) rfl (by kernel_rfl) (by kernel_rfl) (by kernel_rfl) (fun _ _ _ h => h) (.inl ⟨by rfl, fun W hS => run_build_op 54 _ (by rfl) [(0, .int .i64 hh), (1, .int .i64 rr), (2, .agg (Lib.byteCells x).toArray)] (by kernel_rfl) _ (bCommit hh rr x hxl.out)⟩) hH ?_
          simp only [Act.put, List.getElem_toArray, List.getElem_cons_succ, List.getElem_cons_zero, List.setIfInBounds_toArray, List.set_cons_zero, List.set_cons_succ]
          refine wpAnyH_ready (rs := [12]) (by kernel_rfl) (by simp) ?_
          refine AllReadyH.cons rfl (fun K hK => ?_) AllReadyH.nil
          refine step_wanted (by rfl) (wp_alloc_as 54 (by rfl) ZCommit ZCommit_info ?_)
          intro v1 b1 g1 s1
          rw [show w4.drew.heap.size = d from HDe.out] at b1 s1 ⊢
          have k1 := Lib.grownBy_trans k0 g1
          simp only [Act.put, List.getElem_toArray, List.getElem_cons_succ, List.getElem_cons_zero, List.setIfInBounds_toArray, List.set_cons_zero, List.set_cons_succ]
          refine hK.out _ _ (KF.out _ k1) (fun hH => ?_)
          clear hK K
          refine wpAnyH_ready (rs := [13]) (by kernel_rfl) (by simp) ?_
          refine AllReadyH.cons rfl (fun K hK => ?_) AllReadyH.nil
          refine step_wanted (by rfl) (wp_store_whole 54 _ _ (by rfl) d (by rfl) (commitV hh rr x (.slice none 0 0)) ZCommit 54 (by rfl) b1 (by rw [hcl.out]; rfl) (commitV_one _ _ _ _ rfl) (by rw [hcl.out]; exact sizeCommit) ?_)
          intro v2 g2 s2 b2
          have k2 := grown_new k1 g2 (by rw [HDe.out]; exact Nat.le_refl _)
          simp only [Act.put, List.getElem_toArray, List.getElem_cons_succ, List.getElem_cons_zero, List.setIfInBounds_toArray, List.set_cons_zero, List.set_cons_succ]
          refine hK.out _ _ (KF.out _ k2) (fun hH => ?_)
          clear hK K
          refine wpAnyH_done (by kernel_rfl) ?_ _
          go_wp2
          go_meet
          case rel => exact ⟨rfl, b2, k2⟩
        obtain ⟨hu6, d5, g5⟩ := hcut
        subst hu6
        have B5 := Lib.hid (B4.out.grown g5 (by simp)); have C5 := Lib.hid (C4.out.grown g5 (by simp)); have D5 := Lib.hid d5; have G5 := Lib.hid (Lib.grownBy_trans G4.out g5); have TL5 := Lib.hid (TL4.out.grown g5)
        clear d5 g5 k0 KF B4 C4 G4 TL4 HDe
        have CV := Lib.hid (VotesO HT.out TL5.out HSz.out)
        go_wp2_with fail
        refine CV.out.mono ?_
        rintro e w6 ⟨v, rfl, ho, g6⟩
        have B6 := Lib.hid (B5.out.grown g6 (by simp)); have C6 := Lib.hid (C5.out.grown g6 (by simp)); have D6 := Lib.hid (D5.out.grown g6 (by simp)); have G6 := Lib.hid (Lib.grownBy_trans G5.out g6)
        have HVl := Lib.hid (show T.votes.length ≤ 1000 from by rw [(votes_perm T).length_eq]; exact HSz.out)
        have HVw := Lib.hid (show ∀ u ∈ T.votes, u.wf from fun u hu => HT.out.cnt u ((votes_mem T u).1 hu))
        obtain ⟨ys, hys⟩ : ∃ l, T.votes = l := ⟨_, rfl⟩
        rw [hys] at ho HVl HVw HCm
        have HR := Lib.hid (rds_of_own ho)
        obtain ⟨va, vn, vc, hvs⟩ : ∃ a b c, v = .slice a b c := by rcases ho.2 with ⟨h, _⟩ | ⟨g, cap, cur, h, _⟩ <;> exact ⟨_, _, _, h⟩
        have hvn : vn = ys.length := by rcases ho.2 with ⟨h, h2⟩ | ⟨g, cap, cur, h, _⟩ <;> rw [hvs] at h <;> injection h with h3 h4 h5 <;> omega
        subst hvs hvn
        have HGd := Lib.hid (show ∀ g, (Value.slice va ys.length vc).ownBlock = some g → g ≠ d from fun g hg => by have h1 := (ho.lt g hg).1; have h2 := D5.out.lt; omega)
        clear ho g6 CV B5 C5 D5 G5 TL5 hys
        have HW6 := Lib.hid (show w.heap.size ≤ w6.heap.size from G6.out.size)
        have HL6 := Lib.hid (show d < w6.heap.size ∧ c < w6.heap.size ∧ b < w6.heap.size from ⟨D6.out.lt, C6.out.lt, B6.out.lt⟩)
        have hm := HVl.out
        have HFx := Lib.hid (hash_fits _ hxl.out)
        go_wp2_with fail
        go_loopw [48] (fun i wr => ∃ (k : Nat) (sl : Value), k ≤ ys.length ∧ i = .int .i64 k ∧ w.grownBy wr none ∧ w6.heap.size ≤ wr.heap.size ∧ Blk wr b ZCommit 54 ∧ Blk wr c (Lib.byteCells x) 25 ∧ Blk wr d (commitV hh rr x sl) 54 ∧ wr.ownsRow w6.heap.size 63 3 sl (sealsOf (ys.take k) x).length (sealCells (sealsOf (ys.take k) x)) ∧ RdS w6.heap.size wr (.slice va ys.length vc) ys.length 39 (vsCells ys)) (fun i _ => ys.length - (intOf i).toNat)
        case atStart => exact ⟨0, .slice none 0 0, Nat.zero_le _, rfl, G6.out, Nat.le_refl _, B6.out, C6.out, D6.out, ⟨rfl, .inl ⟨rfl, rfl⟩⟩, HR.out⟩
        case round =>
          obtain ⟨k, sl, hk, rfl, hg, hsz, hb, hc, hd, ho, hr⟩ := hrel
          have Hg := Lib.hid hg; have Hs := Lib.hid hsz; have Hb := Lib.hid hb; have Hc := Lib.hid hc; have Hd := Lib.hid hd; have Ho := Lib.hid ho; have Hr := Lib.hid hr
          clear hg hsz hb hc hd ho hr B6 C6 D6 G6 HR
          by_cases hlt : k < ys.length
          · obtain ⟨gl, ol, cl, hsl, hle, hcm, hgl, hrow⟩ := Hr.out.at_ (by omega)
            injection hsl with e1 _ e3
            subst e1 e3
            unfold maxLen at hcm
            have HGl := Lib.hid (show gl ≠ d from HGd.out gl rfl); have HGt := Lib.hid hgl
            obtain ⟨u, hu⟩ : ∃ u, ys[k] = u := ⟨_, rfl⟩
            have RV := RowAt.vote hrow HVw.out k hlt
            rw [hu] at RV
            have HRV := Lib.hid RV
            have Hu := Lib.hid hu
            have Huw := Lib.hid (show u.wf from hu ▸ HVw.out _ (List.getElem_mem hlt))
            have hul := Lib.hid (u.cells_length Huw.out)
            clear RV hu hrow hgl
            go_wp2_with (first | (refine wpList_load_part rfl 29 _ rfl gl (ol + k * 39) rfl u.cells _ HRV.out Tryd.underlying29 rfl (u.size Huw.out) ?_) | (refine wpList_alloc_as rfl 29 rfl ZVote ZVote_info ?_))
            intro w7 b7 g7 s7
            obtain ⟨e, he⟩ : ∃ x, wr.heap.size = x := ⟨_, rfl⟩
            rw [he] at b7 s7 ⊢
            have HE := Lib.hid (show d < e ∧ c < e ∧ b < e ∧ w6.heap.size ≤ e from by
              have h1 := Hd.out.lt; have h2 := Hc.out.lt; have h3 := Hb.out.lt; have h4 := Hs.out
              exact ⟨by omega, by omega, by omega, by omega⟩)
            have HEw := Lib.hid (show w.heap.size ≤ e from by rw [← he]; exact Hg.out.size)
            have HNe := Lib.hid (show ∀ t, sl.ownBlock = some t → t ≠ e from fun t ht => by have := ownsRow.lt Ho.out ht; omega)
            have E7 := Lib.hid b7; have B7 := Lib.hid (Hb.out.grown g7 (by simp)); have C7 := Lib.hid (Hc.out.grown g7 (by simp)); have D7 := Lib.hid (Hd.out.grown g7 (by simp)); have G7 := Lib.hid (Lib.grownBy_trans Hg.out g7)
            have O7 := Lib.hid (World.ownsRow.kept Ho.out g7 (Classical.em _)); have R7 := Lib.hid (Hr.out.grown g7)
            clear b7 g7 HRV Hg Hs Hb Hc Hd Ho Hr
            go_wp2_with (refine wpList_store_whole rfl 29 _ _ rfl e rfl u.cells ZVote 29 rfl E7.out (by rw [hul.out]; rfl) (VoteD_one _) (sizeVote _ hul.out) ?_)
            intro w8 g8 s8 b8
            have E8 := Lib.hid b8; have B8 := Lib.hid (B7.out.grown g8 (by have := HE.out; simp; omega)); have C8 := Lib.hid (C7.out.grown g8 (by have := HE.out; simp; omega)); have D8 := Lib.hid (D7.out.grown g8 (by have := HE.out; simp; omega)); have G8 := Lib.hid (grown_new G7.out g8 HEw.out)
            have O8 := Lib.hid (World.ownsRow.kept O7.out g8 (by
              cases hsb : sl.ownBlock with
              | none => exact .inl rfl
              | some t => exact .inr fun h9 => by injection h9 with h9; exact HNe.out t hsb h9))
            have R8 := Lib.hid (show RdS w6.heap.size w8 (.slice (some ⟨gl, ol, none⟩) ys.length vc) ys.length 39 (vsCells ys) from R7.out.kp (S := fun i => i = e) (Kp.of g8 (fun i x _ => by cases x; rfl)) (fun g hg => by
              simp [Value.ownBlock] at hg
              have h1 := HE.out; have h2 := HGt.out
              omega))
            have S8 := Lib.hid (show w8.heap.size = e + 1 by omega)
            clear b8 g8 s8 s7 he E7 B7 C7 D7 G7 O7 R7
            have ub := Lib.hid ((VoteD.At.of_row Huw.out E8.out.row).block)
            have ubl := Lib.hid (show u.block.length = 32 from Huw.out.block)
            have HFu := Lib.hid (hash_fits _ Huw.out.block)
            obtain ⟨eq, heq⟩ : ∃ z, VEq (Lib.byteCells u.block) (Lib.byteCells x) = z := ⟨_, rfl⟩
            have HEq := Lib.hid heq
            clear heq
            have HTk := Lib.hid (show sealsOf (ys.take (k + 1)) x = if u.block = x then sealsOf (ys.take k) x ++ [u.seal] else sealsOf (ys.take k) x by rw [List.take_succ_eq_append_getElem hlt, Hu.out, sealsOf_snoc])
            cases heqv : eq with
            | false =>
              have HNq := Lib.hid (show sealsOf (ys.take (k + 1)) x = sealsOf (ys.take k) x by
                rw [HTk.out, if_neg]
                intro h9
                have := HEq.out
                rw [VEq.bytes, heqv] at this
                simp [h9] at this)
              subst heqv
              go_wp2_with (first | (refine wpList_load_part rfl 25 _ rfl c 0 rfl (Lib.byteCells x) _ C8.out.row Tryd.underlying25 rfl (sizeH _ (by rw [Lib.byteCells_length, hxl.out])) ?_) | (refine wpList_load_part rfl 25 _ rfl e 4 rfl (Lib.byteCells u.block) _ ub.out Tryd.underlying25 rfl (sizeH _ (by rw [Lib.byteCells_length, ubl.out])) ?_) | (refine wpList_eql_flat rfl 25 _ _ _ rfl (Lib.byteCells u.block) (Lib.byteCells x) kHash rfl rfl hash_flat HFu.out HFx.out rfl (by kernel_rfl) ?_; rw [HEq.out]))
              exact ⟨⟨k + 1, sl, by omega, by go_num, G8.out, by rw [S8.out]; have := HE.out; omega, B8.out, C8.out, D8.out, by rw [HNq.out]; exact O8.out, R8.out⟩, by simp [intOf]; omega⟩
            | true =>
              have HYq := Lib.hid (show sealsOf (ys.take (k + 1)) x = sealsOf (ys.take k) x ++ [u.seal] by
                rw [HTk.out, if_pos]
                have := HEq.out
                rw [VEq.bytes, heqv] at this
                simpa using this)
              subst heqv
              have uk := VoteD.At.of_row Huw.out E8.out.row
              have uk1 := uk.key
              rw [Nat.zero_add] at uk1
              have uk2 := Lib.hid (show RowAt w8 e 37 [.int .u64 u.r, .int .u64 u.s] from fun j v hj => by
                have r1 := uk.r; have r2 := uk.s
                rw [Nat.zero_add] at r1 r2
                match j, hj with
                | 0, hj => injection hj with hj; subst hj; exact r1
                | 1, hj => injection hj with hj; subst hj; exact r2)
              have c34 := D8.out.row 34 _ (commitV_get _ _ _ sl hxl.out)
              rw [Nat.zero_add] at c34
              obtain ⟨a8, n8, k8, hs8⟩ := own_shape O8.out
              subst hs8
              obtain ⟨nl, hnl⟩ : ∃ n, (sealsOf (ys.take k) x).length = n := ⟨_, rfl⟩
              have O8 := Lib.hid (show w8.ownsRow w6.heap.size 63 3 (.slice a8 n8 k8) nl (sealCells (sealsOf (ys.take k) x)) from by have h := O8.out; rw [hnl] at h; exact h)
              have Hnl := Lib.hid (show nl ≤ 1000 from by have h1 := sealsOf_len (ys.take k) x; have h2 := HVl.out; rw [List.length_take] at h1; omega)
              have HNl := Lib.hid hnl
              have H6 := Lib.hid (show w6.heap.size ≤ w8.heap.size from by rw [S8.out]; have := HE.out; omega)
              obtain ⟨uk0, huk⟩ : ∃ z, u.key = z := ⟨_, rfl⟩
              obtain ⟨ur, hur⟩ : ∃ z, u.r = z := ⟨_, rfl⟩
              obtain ⟨us, hus⟩ : ∃ z, u.s = z := ⟨_, rfl⟩
              have HUs := Lib.hid (show u.seal.cells = [.int .u64 uk0, .int .u64 ur, .int .u64 us] by rw [← huk, ← hur, ← hus]; rfl)
              rw [huk] at uk1; rw [hur, hus] at uk2
              clear uk huk hur hus hnl
              have hcl9 := Lib.hid (commitV_len hh rr x (.slice a8 n8 k8) hxl.out)
              go_wp2_with (first | (refine wpList_load_part rfl 25 _ rfl c 0 rfl (Lib.byteCells x) _ C8.out.row Tryd.underlying25 rfl (sizeH _ (by rw [Lib.byteCells_length, hxl.out])) ?_) | (refine wpList_load_part rfl 25 _ rfl e 4 rfl (Lib.byteCells u.block) _ ub.out Tryd.underlying25 rfl (sizeH _ (by rw [Lib.byteCells_length, ubl.out])) ?_) | (refine wpList_eql_flat rfl 25 _ _ _ rfl (Lib.byteCells u.block) (Lib.byteCells x) kHash rfl rfl hash_flat HFu.out HFx.out rfl (by kernel_rfl) ?_; rw [HEq.out]) | (refine wpList_load_part rfl 27 _ rfl e 37 rfl [.int .u64 ur, .int .u64 us] _ uk2.out Tryd.underlying27 rfl (by kernel_rfl) ?_) | (refine wpList_app_new _ rfl _ _ 52 rfl w6.heap.size 63 _ 3 24 Tryd.underlying52 seal_info rfl _ nl _ rfl O8.out rfl [.int .u64 uk0, .int .u64 ur, .int .u64 us] rfl (by simp [Value.oneCell']) (by have := Hnl.out; omega) (by omega) H6.out ?_; intro v' w9 o9 b9 k9; obtain ⟨a9, n9, q9, rfl⟩ := own_shape o9; have D9 := (b9.block d HL6.out.1).trans D8.out) | (refine wpList_store_cellB rfl 52 _ _ rfl d 34 rfl (.slice a9 n9 q9) rfl rfl (commitV hh rr x (.slice a8 n8 k8)) 54 D9 (by rw [hcl9.out]; decide) (by kernel_rfl) ?_))
              intro w10 g10 s10 b10
              have H6d := Lib.hid (show d < w6.heap.size ∧ c < w6.heap.size ∧ b < w6.heap.size from HL6.out)
              have B9 := Lib.hid (show Blk w9 b ZCommit 54 from (b9.block b H6d.out.2.2).trans B8.out)
              have C9 := Lib.hid (show Blk w9 c (Lib.byteCells x) 25 from (b9.block c H6d.out.2.1).trans C8.out)
              have R9 := Lib.hid (show RdS w6.heap.size w9 (.slice (some ⟨gl, ol, none⟩) ys.length vc) ys.length 39 (vsCells ys) from R8.out.below b9 (Nat.le_refl _))
              have G9 := Lib.hid (grown_below G8.out (b9.mono HW6.out))
              have O9 := Lib.hid o9; have S9 := Lib.hid b9.size
              rw [commitV_set _ _ _ _ _ hxl.out] at b10
              have hgw : w9.grownBy w10 (some d) := g10
              have HG10 := Lib.hid hgw; have HB10 := Lib.hid b10
              clear o9 b9 k9 g10 s10 b10 hgw D9 O8 R8 B8 C8 D8 E8 G8
              go_wp2_with fail
              have g10 := HG10.out; have b10 := HB10.out
              have n10 := own_ne O9.out H6d.out.1
              have h6 : w6.heap.size ≤ w10.heap.size := by have h1 := S9.out; have h2 := H6.out; have h3 := g10.size; omega
              refine ⟨⟨k + 1, .slice a9 n9 q9, by omega, by go_num, grown_new G9.out g10 ?_, h6, B9.out.grown g10 (by have := HE.out; have := HC.out; have := HD.out; simp; omega), C9.out.grown g10 (by have := HD.out; simp; omega), b10, ?_, ?_⟩, by simp [intOf]; omega⟩
              · have h1 := HCs.out; have h2 := HD.out; omega
              · rw [HYq.out, sealCells_app, List.length_append, HNl.out]
                have h9 := World.ownsRow.kept O9.out g10 n10
                have e9 : sealCells [u.seal] = [.int .u64 uk0, .int .u64 ur, .int .u64 us] := by rw [← HUs.out]; simp [sealCells]
                rw [e9]
                exact h9
              · exact R9.out.kp (S := fun i => i = d) (Kp.of g10 (fun i x _ => by cases x; rfl)) (fun g hg => by
                  simp [Value.ownBlock] at hg
                  subst hg
                  exact HGl.out)
          · obtain rfl : k = ys.length := by omega
            obtain ⟨sa, sn, sc, hs9⟩ := own_shape Ho.out
            subst hs9
            have hcl9 := Lib.hid (commitV_len hh rr x (.slice sa sn sc) hxl.out)
            go_wp2_with (first | (refine wpList_load_part rfl 54 _ rfl d 0 rfl (commitV hh rr x (.slice sa sn sc)) _ Hd.out.row Tryd.underlying54 rfl (by rw [hcl9.out]; exact sizeCommit) ?_) | (refine wpList_store_whole rfl 54 _ _ rfl b rfl (commitV hh rr x (.slice sa sn sc)) ZCommit 54 rfl Hb.out (by rw [hcl9.out]; rfl) (commitV_one _ _ _ _ rfl) (by rw [hcl9.out]; exact sizeCommit) ?_))
            intro w9 g9 s9 b9
            have B9 := Lib.hid b9; have G9 := Lib.hid (grown_new Hg.out g9 (by rw [HB.out]; exact Nat.le_refl _))
            have O9 := Lib.hid (World.ownsRow.kept Ho.out g9 (own_ne Ho.out HL6.out.2.2))
            clear b9 g9 s9
            go_wp2_with fail
            refine bodyPost_ret (results_cell_tmp rfl _ _ ⟨b, 0, none⟩ _ _ rfl rfl (run_loadVar_part _ _ _ 54 (commitV hh rr x (.slice sa sn sc)) _ B9.out.row Tryd.underlying54 rfl (by rw [hcl9.out]; exact sizeCommit))) rfl ?_
            rw [HCm.out]
            refine ⟨G9.out, _, rfl, .slice sa sn sc, ?_, rfl⟩
            have h9 := O9.out
            rw [List.take_length] at h9
            exact own_mono h9 (by have := HW6.out; omega)

end Go.Proofs.YtfnginmoiecgnaaDoor
