/- Walk: nunciolaw13.SignerOn. -/
import Derived.Test.YtcbkehnlgpcelaaGreatDoorSg10
namespace Go.Proofs.YtcbkehnlgpcelaaGreatDoor
open Go.RowKit
set_option maxRecDepth 100000

theorem ref_grown2 (w : World) : w.grownBy w none := World.grownBy.refl _ _
set_option maxHeartbeats 1000000 in
theorem live_signT {w0 w : World} {s x n : Nat} {c : ByteArray} {z : SgP} (L : Live w0 w s x c z (n + 1)) (hx rx tx : Int) (b : List UInt8) (hh : i64R hx) (hr : i64R rx) (ht : i64R tx) (hb : b.length = 32) (hR : RowAt w0 3 0 (wCells rootsL)) :
    Calls Tryz.prog 11 #[.pointer (some ⟨s, 0, none⟩), .int .i64 hx, .int .i64 rx, .int .i64 tx, .agg (Lib.byteCells b).toArray] w fun e w' => ∃ z', Live w0 w' s x c z' n ∧ SignRes x z.vs (voteOf c hx rx tx b) e z'.vs ∧ Tch z.foot w w' := by
  have h1 : z.y.room 1 := room_one L.room
  have hle : z.vs.length ≤ 100000 := Nat.le_trans (Nat.le_add_right _ (n + 1)) (Nat.le_trans L.len (by decide))
  have hC := sSign_ok z L.rep hx rx tx b hh hr ht hb (hR.grown L.grown (by simp)) h1 hle
  unfold SigArgs at hC
  rw [L.hs, L.ch] at hC
  have hno : signNo z (voteOf c hx rx tx b) = noP x z.vs (voteOf c hx rx tx b) := by unfold signNo noP; rw [L.bad, L.sec, if_neg (c := false = true) (by simp)]
  refine hC.mono ?_
  rintro e w' (⟨p, hp, he, g⟩ | ⟨hp, he, hn⟩)
  · refine ⟨z, ⟨L.rep.grown g, L.hs, L.sec, L.ch, L.bad, Lib.grownBy_trans L.grown g, L.foot, L.good, room_less L.room, Nat.le_trans (Nat.add_le_add_left (Nat.le_succ n) _) L.len⟩, .inl ⟨p, hno ▸ hp, he, rfl⟩, Tch.of_grown g⟩
  · obtain ⟨bv, sv, rv, rw1, sv2, vv, hz, t, hf⟩ := hn
    rw [L.sec] at he hz hf
    have h0 : (signL x (voteOf c hx rx tx b)).2 = 0 := by
      rw [hno] at hp
      unfold noP at hp
      split at hp
      · cases hp
      · split at hp
        · cases hp
        · rename_i h2; simpa using h2
    have hvw : (voteOf c hx rx tx b).wf := voteOf_wf (L.ch ▸ L.rep.name) hh hr ht hb
    have hg := signL_good x _ hvw (L.sec ▸ signL_key L.rep) h0
    have hok := signL_ok x _ hvw h0
    have hel : (encVote (signL x (voteOf c hx rx tx b)).1).length ≤ 1000 := encVote_len _ hg.1 (by rw [hok.2.2]; exact hok.1)
    have hah : z.vs.length = 0 ∨ aheadB (lastP z.vs) (signL x (voteOf c hx rx tx b)).1.pl = true := by
      rw [hg.2.2.2.2.1]
      by_cases hz0 : z.vs.length = 0
      · exact .inl hz0
      · right
        rw [hno] at hp
        unfold noP at hp
        cases hq : aheadB (lastP z.vs) (voteOf c hx rx tx b).pl with
        | true => rfl
        | false => rw [if_pos ⟨hz0, hq⟩] at hp; cases hp
    have hB : ((z.y.next bv (encVote (signL x (voteOf c hx rx tx b)).1) sv rv rw1).synced sv2).x.B.length = z.y.x.B.length + ((encVote (signL x (voteOf c hx rx tx b)).1).length + 6) := by
      show (z.y.x.B ++ frameL _).length = _
      rw [List.length_append, frameL_len]
    obtain ⟨Y, hY⟩ : ∃ Y, (z.y.next bv (encVote (signL x (voteOf c hx rx tx b)).1) sv rv rw1).synced sv2 = Y := ⟨_, rfl⟩
    have hYn : Y.x.ns = z.y.x.ns + 1 + 1 ∧ Y.nr = z.y.nr + 1 := by rw [← hY]; exact ⟨rfl, rfl⟩
    rw [hY] at hz hf hB
    obtain ⟨Z, hZ⟩ : ∃ Z : SgP, { z with y := Y, secret := x, vv := vv, vs := z.vs ++ [(signL x (voteOf c hx rx tx b)).1] } = Z := ⟨_, rfl⟩
    rw [hZ] at hz hf
    have hZs : Z.s = z.s ∧ Z.secret = x ∧ Z.chain = z.chain ∧ Z.bad = z.bad ∧ Z.y = Y ∧ Z.vs = z.vs ++ [(signL x (voteOf c hx rx tx b)).1] := by rw [← hZ]; exact ⟨rfl, rfl, rfl, rfl, rfl, rfl⟩
    clear hZ hY
    refine ⟨Z, ⟨hz, hZs.1.trans L.hs, hZs.2.1, hZs.2.2.1.trans L.ch, hZs.2.2.2.1.trans L.bad, ((Tch.of_grown (F := z.foot) L.grown).trans t (fun _ h _ => h)).grown L.foot, fun k hk => ?_, hZs.2.2.2.2.2 ▸ L.good.snoc ⟨hg.1, hg.2.1, hg.2.2.1, hg.2.2.2.1⟩ hah, ?_, ?_⟩, .inr ⟨hno ▸ hp, he, hZs.2.2.2.2.2⟩, t⟩
    · rcases hf k hk with h | h
      · exact L.foot k h
      · exact Nat.le_trans L.grown.size h
    · rw [hZs.2.2.2.2.1]
      exact room_step L.room hB hel hYn
    · rw [hZs.2.2.2.2.2, List.length_append, List.length_singleton]
      exact Nat.le_trans (Nat.le_of_eq (by rw [Nat.add_assoc, Nat.add_comm 1 n])) L.len
def latB (vs : List VoteD) (v : VoteD) : Bool := decide (vs.length = 0) || aheadB (lastP vs) v.pl
/-- what came of it -/
def OnRes (x : Nat) (vs : List VoteD) (v R : VoteD) (c : Int) (vs' : List VoteD) : Prop :=
  (noP x vs v = some (R, c) ∧ vs' = vs) ∨ (noP x vs v = none ∧ R = (signL x v).1 ∧ c = 0 ∧ vs' = vs ++ [R])
theorem on_res {x : Nat} {vs vs' : List VoteD} {v : VoteD} {e : Ending} (h : SignRes x vs v e vs') : ∃ R c, e = .returned (.tuple #[.agg R.cells.toArray, .int .i64 c]) ∧ OnRes x vs v R c vs' := by
  rcases h with ⟨p, hp, he, hv⟩ | ⟨hp, he, hv⟩
  · exact ⟨p.1, p.2, he, .inl ⟨hp, hv⟩⟩
  · exact ⟨_, 0, he, .inr ⟨hp, rfl, rfl, hv⟩⟩
theorem lat_cond {vs : List VoteD} {v : VoteD} (h : latB vs v = true) : ¬ (vs.length ≠ 0 ∧ aheadB (lastP vs) v.pl = false) := by
  unfold latB at h
  intro ⟨h1, h2⟩
  rw [h2] at h
  simp [h1] at h
theorem lat_not {vs : List VoteD} {v : VoteD} (h : latB vs v = false) : vs.length ≠ 0 ∧ aheadB (lastP vs) v.pl = false := by
  unfold latB at h
  simp only [Bool.or_eq_false_iff, decide_eq_false_iff_not] at h
  exact h
theorem on_wf {x : Nat} {vs vs' : List VoteD} {v R : VoteD} {c : Int} (hx : x < 18446744073709551616) (hv : v.wf) (hw : ∀ u ∈ vs, u.wf) (h : OnRes x vs v R c vs') : R.wf := by
  rcases h with ⟨h, _⟩ | ⟨h, rfl, _, _⟩
  · unfold noP at h
    split at h
    · rename_i h0
      injection h with h
      split at h
      · injection h with h1 h2; rw [← h1]; exact hw _ (lastV_mem (Nat.pos_of_ne_zero h0.1))
      · injection h with h1 h2; rw [← h1]; exact zeroV_wf
    · split at h
      · injection h with h; injection h with h1 h2; rw [← h1]; exact zeroV_wf
      · cases h
  · unfold noP at h
    split at h
    · cases h
    · split at h
      · cases h
      · rename_i h2
        exact (signL_good x v hv hx (by simpa using h2)).1
theorem on_A {x : Nat} {vs vs' : List VoteD} {v R : VoteD} {c : Int} (hk : keyOk x = true) (h : OnRes x vs v R c vs') (hl : latB vs v = true) (ho : okVote v = true) : c = 0 ∧ vs' = vs ++ [R] ∧ R.block = v.block ∧ R.height = v.height := by
  have hs := signL_yes hk ho
  have hn : noP x vs v = none := by unfold noP; rw [if_neg (lat_cond hl), if_neg (by rw [hs]; simp)]
  rcases h with ⟨h, _⟩ | ⟨_, rfl, h2, h3⟩
  · rw [hn] at h; cases h
  · rw [hs] at h3 ⊢; exact ⟨h2, h3, rfl, rfl⟩
theorem on_B {x : Nat} {vs vs' : List VoteD} {v R : VoteD} {c : Int} (h : OnRes x vs v R c vs') (hl : latB vs v = true) (ho : okVote v = false) : c = 61 ∧ vs' = vs := by
  have hs : signL x v = (zeroV, 61) := by unfold signL; rw [if_neg (by rw [ho]; simp)]
  have hn : noP x vs v = some (zeroV, 61) := by unfold noP; rw [if_neg (lat_cond hl), if_pos (by rw [hs]; simp), hs]
  rcases h with ⟨h, h2⟩ | ⟨h, _⟩
  · rw [hn] at h; injection h with h; injection h with _ h; exact ⟨h.symm, h2⟩
  · rw [hn] at h; cases h
theorem on_C {x : Nat} {vs vs' : List VoteD} {v R : VoteD} {c : Int} (h : OnRes x vs v R c vs') (hl : latB vs v = false) : vs' = vs ∧ (if lastP vs = v.pl ∧ (lastV vs).block = v.block then R = lastV vs ∧ c = 0 else R = zeroV ∧ c = 131) := by
  have hn : noP x vs v = some (if lastP vs = v.pl ∧ (lastV vs).block = v.block then (lastV vs, 0) else (zeroV, 131)) := by unfold noP; rw [if_pos (lat_not hl)]
  rcases h with ⟨h, h2⟩ | ⟨h, _⟩
  · rw [hn] at h
    injection h with h
    refine ⟨h2, ?_⟩
    split at h
    · rename_i h0; rw [if_pos h0]; injection h with h1 h3; exact ⟨h1.symm, h3.symm⟩
    · rename_i h0; rw [if_neg h0]; injection h with h1 h3; exact ⟨h1.symm, h3.symm⟩
  · rw [hn] at h; cases h
theorem enc_code (v : VoteD) (hv : v.wf) (w : World) : Calls Tryz.prog 13 #[.agg v.cells.toArray] w fun e w' => ∃ a n k, e = .returned (.tuple #[.slice a n k, .int .i64 (if okVote v = true then 0 else 61)]) ∧ w.grownBy w' none := by
  by_cases h : okVote v = true
  · rw [if_pos h]
    exact (EncodeVote_yes v w hv h).mono fun e w' ⟨a, n, k, he, _, hb⟩ => ⟨a, n, k, he, below_grown hb⟩
  · rw [if_neg h]
    exact (EncodeVote_no v w hv (by simpa using h)).mono fun e w' ⟨he, hb⟩ => ⟨none, 0, 0, he, below_grown hb⟩
set_option maxHeartbeats 16000000 in
theorem SignerOn_any (x : Nat) (hx : x < 18446744073709551616) (v : Value) (s : List AskD) (a0 : AskD) (w0 : World) (hs : RdS w0.heap.size w0 v s.length 39 (asksCells s)) (hw : ∀ a ∈ s, a.wf) (ha0 : a0.wf) (hR : RowAt w0 3 0 (wCells rootsL)) :
    Calls Tryz.prog 3 #[.int .u64 (x : Int), v, .agg a0.cells.toArray] w0 fun e w' => e = .returned (.bool true) ∧ w0.grownBy w' none := by
  have HSA := Lib.hid (fun k hk => asks_at hs hw k hk)
  have HSW := Lib.hid hw; have HA0 := Lib.hid ha0; have HXX := Lib.hid hx; have HR := Lib.hid hR
  have CA := Lib.hid (fun w (g : w0.grownBy w none) => alive13_ok w (hR.grown g (by simp)))
  obtain ⟨ao, cp, rfl, hle, hcm, _, _⟩ := hs
  unfold maxLen at hcm
  have hsl : (s.length : Int) ≤ 9223372036854775807 := by omega
  have HVW := Lib.hid (voteOf_wf (c := chA) (by decide) ha0.h ha0.r ha0.t ha0.block)
  have BV := Lib.hid (bVoteP chA a0.h a0.r a0.t a0.block ha0.block)
  have HVP := Lib.hid (show (voteOf chA a0.h a0.r a0.t a0.block).pl = ⟨a0.h, a0.r, a0.t⟩ ∧ (voteOf chA a0.h a0.r a0.t a0.block).block = a0.block ∧ (voteOf chA a0.h a0.r a0.t a0.block).height = a0.h from ⟨rfl, rfl, rfl⟩)
  obtain ⟨V, hV⟩ : ∃ V, voteOf chA a0.h a0.r a0.t a0.block = V := ⟨_, rfl⟩
  have HVE := Lib.hid hV
  rw [hV] at HVW BV HVP
  have HVL := Lib.hid (V.cells_length HVW.out)
  have O := OwF.start (fun _ => False) w0
  clear hw hR ha0 hx hV
  cases hk : keyOk x with
  | false =>
    go_enter Tryz.func3, Tryz.ntmps3
    go_wp2_with (first | ((with_reducible refine @wpList_at _ _ _ _ _ _ _ (.box 29 (.tmp 2)) rfl ?_); refine @wpList_of_box _ _ _ _ _ _ _ _ _ _ 29 (.tmp 2) rfl a0.cells rfl O rfl ?_; clear O; intro b5 w O))
    have HBB := Lib.hid O
    refine (tpNew_ok w).mono ?_
    rintro e w1 ⟨bt, rfl, ht, g1, hbt⟩
    have G1 := Lib.hid g1
    clear ht g1 hbt
    go_wp2_with fail
    refine (show Calls Tryz.prog 9 #[.pointer (some ⟨bt, 0, none⟩), .int .u64 (x : Int), .string ⟨#[97]⟩] w1 _ from sgOpen_key x hk _ chA w1).mono ?_
    rintro e w2 ⟨rfl, rfl⟩
    go_wp2_with fail
    refine (CA.out w2 ((Lib.grownBy_trans (HBB.out.tch.grown (fun _ h => h.elim)) G1.out))).mono ?_
    rintro e w3 ⟨rfl, g⟩
    have G3 := Lib.hid g
    clear g
    go_wp2_with fail
    go_ret
    exact ⟨rfl, Lib.grownBy_trans ((Lib.grownBy_trans (HBB.out.tch.grown (fun _ h => h.elim)) G1.out)) G3.out⟩
  | true =>
    go_enter Tryz.func3, Tryz.ntmps3
    go_wp2_with (first | ((with_reducible refine @wpList_at _ _ _ _ _ _ _ (.box 29 (.tmp 2)) rfl ?_); refine @wpList_of_box _ _ _ _ _ _ _ _ _ _ 29 (.tmp 2) rfl a0.cells rfl O rfl ?_; clear O; intro b5 w O))
    obtain ⟨wA, hwA⟩ : ∃ q, w = q := ⟨_, rfl⟩
    rw [hwA] at O ⊢
    clear hwA w
    have HGA := Lib.hid (show w0.grownBy wA none from O.tch.grown (fun _ h => h.elim))
    have HB5 := Lib.hid (O.at_ 0 rfl)
    have HSB := Lib.hid (fun k hk => HSA.out k hk)
    clear O
    refine (tpNew_ok wA).mono ?_
    rintro e w1 ⟨bt, rfl, ht, g1, hbt⟩
    have HT := Lib.hid ht; have G1 := Lib.hid g1; have HBT := Lib.hid hbt
    clear ht g1 hbt
    go_wp2_with fail
    refine (show Calls Tryz.prog 9 #[.pointer (some ⟨bt, 0, none⟩), .int .u64 (x : Int), .string ⟨#[97]⟩] w1 _ from sgOpen_new HT.out x hk chA (by decide)).mono ?_
    rintro e w2 ⟨sg, l, sv1, rfl, hz, t2, f2⟩
    have hzs := (G1.out).size
    have L0 := Lib.hid (live_new (w0 := wA) (((Tch.of_grown (F := fun k => k = bt) (G1.out)).trans t2 (fun _ h _ => h)).grown (fun k hk => hk ▸ HBT.out)) hz f2 HBT.out hzs)
    obtain ⟨z0, hz0⟩ : ∃ z : SgP, (⟨sg, .new bt l sv1, x, pw 37 x, chA, .slice none 0 0, [], false⟩ : SgP) = z := ⟨_, rfl⟩
    rw [hz0] at L0
    clear hz t2 f2 hz0 hzs
    have QH : ∀ {W : World}, wA.grownBy W none → RowAt W b5 1 [.int .i64 a0.h] := fun gg => RowAt.one ((HB5.out.grown gg (by simp)).row 1 _ rfl)
    have QR : ∀ {W : World}, wA.grownBy W none → RowAt W b5 2 [.int .i64 a0.r] := fun gg => RowAt.one ((HB5.out.grown gg (by simp)).row 2 _ rfl)
    have QT : ∀ {W : World}, wA.grownBy W none → RowAt W b5 3 [.int .i64 a0.t] := fun gg => RowAt.one ((HB5.out.grown gg (by simp)).row 3 _ rfl)
    have QB : ∀ {W : World}, wA.grownBy W none → RowAt W b5 4 (Lib.byteCells a0.block) := fun gg => by have := AskD.blockRow (HB5.out.grown gg (by simp)).row HA0.out; rwa [Nat.zero_add] at this
    go_wp2_with fail
    go_loopw [10] (fun i wr => ∃ (k n : Nat) (z : SgP), k ≤ 20 ∧ k ≤ s.length ∧ n + k = 40 ∧ i = .int .i64 (k : Int) ∧ Live wA wr sg x chA z n) (fun i _ => 21 - (intOf i).toNat)
    case atStart => exact ⟨0, 40, z0, by omega, by omega, by omega, rfl, L0.out⟩
    case round =>
      clear L0
      obtain ⟨k, n, z, hk20, hkl, hnk, rfl, hL⟩ := hrel
      have L := Lib.hid hL
      clear hL
      obtain ⟨n, rfl⟩ : ∃ m, n = m + 1 := ⟨n - 1, by omega⟩
      obtain ⟨wq, hwq⟩ : ∃ q, wr = q := ⟨_, rfl⟩
      rw [hwq] at L ⊢
      clear hwq
      go_upto_region 6 with fail
      go_cut [50] from 43 to 50 (fun s50 w' => s50 = .bool (decide (k < s.length ∧ k < 20)) ∧ wq = w')
      case first =>
        by_cases h1 : k < s.length
        · by_cases h2 : k < 20
          · have d2 : decide ((k : Int) < 20) = true := decide_eq_true (by omega)
            go_wp2_with fail
            go_meet
            case rel => exact ⟨by simp [h1, h2], rfl⟩
          · have d2 : decide ((k : Int) < 20) = false := decide_eq_false (by omega)
            go_wp2_with fail
            go_meet
            case rel => exact ⟨by simp [h2], rfl⟩
        · have d1 : decide ((k : Int) < (s.length : Int)) = false := decide_eq_false (by omega)
          go_wp2_with fail
          go_meet
          case rel => exact ⟨by simp [h1], rfl⟩
      obtain ⟨h50, hw6⟩ := hcut
      rw [← hw6]
      clear hw6
      by_cases hc : k < s.length ∧ k < 20
      · rw [decide_eq_true hc] at h50
        subst h50
        obtain ⟨h1, h2⟩ := hc
        obtain ⟨g, o, c2, e1, _, r1⟩ := HSA.out k h1
        obtain ⟨rfl, rfl⟩ : ao = some ⟨g, o, none⟩ ∧ cp = c2 := by injection e1 with h1 _ h2; exact ⟨h1, h2⟩
        have HA := Lib.hid (HSW.out _ (List.getElem_mem h1))
        obtain ⟨a, ha⟩ : ∃ a, s[k] = a := ⟨_, rfl⟩
        rw [ha] at r1 HA
        have RH : ∀ {W : World}, wA.grownBy W none → RowAt W g (o + k * 39 + 1) [.int .i64 a.h] := fun gg => RowAt.one ((r1.grown (Lib.grownBy_trans HGA.out gg) (by simp)) 1 _ rfl)
        have RR : ∀ {W : World}, wA.grownBy W none → RowAt W g (o + k * 39 + 2) [.int .i64 a.r] := fun gg => RowAt.one ((r1.grown (Lib.grownBy_trans HGA.out gg) (by simp)) 2 _ rfl)
        have RT : ∀ {W : World}, wA.grownBy W none → RowAt W g (o + k * 39 + 3) [.int .i64 a.t] := fun gg => RowAt.one ((r1.grown (Lib.grownBy_trans HGA.out gg) (by simp)) 3 _ rfl)
        have RB : ∀ {W : World}, wA.grownBy W none → RowAt W g (o + k * 39 + 4) (Lib.byteCells a.block) := fun gg => AskD.blockRow (r1.grown (Lib.grownBy_trans HGA.out gg) (by simp)) HA.out
        have RDS : ∀ {W : World}, wA.grownBy W none → RdA [(5, g, o + k * 39 + 1, [.int .i64 a.h]), (10, g, o + k * 39 + 2, [.int .i64 a.r]), (15, g, o + k * 39 + 3, [.int .i64 a.t]), (20, g, o + k * 39 + 4, Lib.byteCells a.block)] W := fun gg => RdA.cons (RH gg) (RdA.cons (RR gg) (RdA.cons (RT gg) (RdA.cons (RB gg) RdA.nil)))
        have hix : ¬ ((s.length : Int) ≤ (k : Int)) := by omega
        have ew := IntWalk.i64_in ((k : Int) + 1) (by omega)
        clear e1 ha
        go_upto_region 8 with fail
        have gd := dr1s wq
        have GD := Lib.hid gd
        clear gd
        refine wp_region_J (rdf [(5, g, (o + k * 39 + 1), [(.int .i64 a.h)]), (10, g, (o + k * 39 + 2), [(.int .i64 a.r)]), (15, g, (o + k * 39 + 3), [(.int .i64 a.t)]), (20, g, (o + k * 39 + 4), (Lib.byteCells a.block))]) [21] (by as_aux_lemma => kernel_rfl) (RdA.cons (RH (Lib.grownBy_trans L.out.grown GD.out)) (RdA.cons (RR (Lib.grownBy_trans L.out.grown GD.out)) (RdA.cons (RT (Lib.grownBy_trans L.out.grown GD.out)) (RdA.cons (RB (Lib.grownBy_trans L.out.grown GD.out)) RdA.nil)))) (fun hH => ?_)
        refine jp 0 ((.pointer (some ⟨sg, 0, none⟩))) (Still.all hH) ?_ (hk := by as_aux_lemma => kernel_rfl)
        simp only [Act.put, jq1, jq3, jq4, jq5, jq6]
        refine jp 1 ((.slice (some ⟨g, o, none⟩) s.length cp)) (Still.all hH) ?_ (hk := by as_aux_lemma => kernel_rfl)
        simp only [Act.put, jq1, jq2, jq3, jq4, jq5, jq6]
        refine jp 2 ((.int .i64 (k : Int))) (Still.all hH) ?_ (hk := by as_aux_lemma => kernel_rfl)
        simp only [Act.put, jq1, jq2, jq3, jq4, jq5, jq6]
        refine jp 3 ((.pointer (some ⟨g, o + k * 39, none⟩))) (Still.all hH) ?_ (hk := by as_aux_lemma => kernel_rfl)
        simp only [Act.put, jq1, jq2, jq3, jq4, jq5, jq6]
        refine jp 4 ((.pointer (some ⟨g, o + k * 39 + 1, none⟩))) (Still.all hH) ?_ (hk := by as_aux_lemma => kernel_rfl)
        simp only [Act.put, jq1, jq2, jq3, jq4, jq5, jq6]
        refine jr 0 5 ((.int .i64 a.h)) rfl rfl (yields_cell (by rfl) 3 _ rfl g (o + k * 39 + 1) rfl (.int .i64 a.h) _ (fun W h => h) Tryz.underlying3 rfl) (Still.all hH) ?_ (hk := by as_aux_lemma => kernel_rfl)
        simp only [Act.put, jq1, jq2, jq3, jq4, jq5, jq6]
        refine jp 6 ((.slice (some ⟨g, o, none⟩) s.length cp)) (Still.all hH) ?_ (hk := by as_aux_lemma => kernel_rfl)
        simp only [Act.put, jq1, jq2, jq3, jq4, jq5, jq6]
        refine jp 7 ((.int .i64 (k : Int))) (Still.all hH) ?_ (hk := by as_aux_lemma => kernel_rfl)
        simp only [Act.put, jq1, jq2, jq3, jq4, jq5, jq6]
        refine jp 8 ((.pointer (some ⟨g, o + k * 39, none⟩))) (Still.all hH) ?_ (hk := by as_aux_lemma => kernel_rfl)
        simp only [Act.put, jq1, jq2, jq3, jq4, jq5, jq6]
        refine jp 9 ((.pointer (some ⟨g, o + k * 39 + 2, none⟩))) (Still.all hH) ?_ (hk := by as_aux_lemma => kernel_rfl)
        simp only [Act.put, jq1, jq2, jq3, jq4, jq5, jq6]
        refine jr 1 10 ((.int .i64 a.r)) rfl rfl (yields_cell (by rfl) 3 _ rfl g (o + k * 39 + 2) rfl (.int .i64 a.r) _ (fun W h => h) Tryz.underlying3 rfl) (Still.all hH) ?_ (hk := by as_aux_lemma => kernel_rfl)
        simp only [Act.put, jq1, jq2, jq3, jq4, jq5, jq6]
        refine jp 11 ((.slice (some ⟨g, o, none⟩) s.length cp)) (Still.all hH) ?_ (hk := by as_aux_lemma => kernel_rfl)
        simp only [Act.put, jq1, jq2, jq3, jq4, jq5, jq6]
        refine jp 12 ((.int .i64 (k : Int))) (Still.all hH) ?_ (hk := by as_aux_lemma => kernel_rfl)
        simp only [Act.put, jq1, jq2, jq3, jq4, jq5, jq6]
        refine jp 13 ((.pointer (some ⟨g, o + k * 39, none⟩))) (Still.all hH) ?_ (hk := by as_aux_lemma => kernel_rfl)
        simp only [Act.put, jq1, jq2, jq3, jq4, jq5, jq6]
        refine jp 14 ((.pointer (some ⟨g, o + k * 39 + 3, none⟩))) (Still.all hH) ?_ (hk := by as_aux_lemma => kernel_rfl)
        simp only [Act.put, jq1, jq2, jq3, jq4, jq5, jq6]
        refine jr 2 15 ((.int .i64 a.t)) rfl rfl (yields_cell (by rfl) 24 _ rfl g (o + k * 39 + 3) rfl (.int .i64 a.t) _ (fun W h => h) Tryz.underlying24 rfl) (Still.all hH) ?_ (hk := by as_aux_lemma => kernel_rfl)
        simp only [Act.put, jq1, jq2, jq3, jq4, jq5, jq6]
        refine jp 16 ((.slice (some ⟨g, o, none⟩) s.length cp)) (Still.all hH) ?_ (hk := by as_aux_lemma => kernel_rfl)
        simp only [Act.put, jq1, jq2, jq3, jq4, jq5, jq6]
        refine jp 17 ((.int .i64 (k : Int))) (Still.all hH) ?_ (hk := by as_aux_lemma => kernel_rfl)
        simp only [Act.put, jq1, jq2, jq3, jq4, jq5, jq6]
        refine jp 18 ((.pointer (some ⟨g, o + k * 39, none⟩))) (Still.all hH) ?_ (hk := by as_aux_lemma => kernel_rfl)
        simp only [Act.put, jq1, jq2, jq3, jq4, jq5, jq6]
        refine jp 19 ((.pointer (some ⟨g, o + k * 39 + 4, none⟩))) (Still.all hH) ?_ (hk := by as_aux_lemma => kernel_rfl)
        simp only [Act.put, jq1, jq2, jq3, jq4, jq5, jq6]
        refine jr 3 20 ((.agg ((Lib.byteCells a.block)).toArray)) rfl rfl (yieldsIf_load_mid (by rfl) 26 _ rfl g (o + k * 39 + 4) rfl (Lib.byteCells a.block) _ (fun W h => h) Tryz.underlying26 rfl (sizeH _ (by rw [Lib.byteCells_length, HA.out.block]))) (Still.all hH) ?_ (hk := by as_aux_lemma => kernel_rfl)
        simp only [Act.put, jq1, jq2, jq3, jq4, jq5, jq6]
        refine wpAnyJ_ready (rs := [21]) (by as_aux_lemma => kernel_rfl) (by simp) ?_
        refine AllJ.keep rfl (by rfl) (by rfl) (fun K hK => ?_) (AllJ.nil)
        refine wp_call 11 _ _ (by rfl) (enters Tryz.func11 (by kernel_rfl) rfl) (by rfl) (live_sign (L.out.up GD.out) a.h a.r a.t a.block HA.out.h HA.out.r HA.out.t HA.out.block (HR.out.grown HGA.out (by simp))) ?_
        rintro e u ⟨z2, hL2, hres⟩
        obtain ⟨rv, rfl⟩ : ∃ v, e = .returned v := by rcases hres with ⟨p, _, he, _⟩ | ⟨_, he, _⟩ <;> exact ⟨_, he⟩
        refine ⟨rv, rfl, ?_⟩
        have L2 := Lib.hid hL2
        clear hL2 hres
        simp only [Act.put, jq1, jq2, jq3, jq4, jq5, jq6]
        refine hK.out _ _ (RDS L2.out.grown) ?_
        replace hH := RDS L2.out.grown
        clear hK K
        refine wpAnyJ_done (by as_aux_lemma => kernel_rfl) ?_ _
        clear hH
        go_wp2_with fail
        exact ⟨⟨k + 1, n, z2, by omega, by omega, by omega, by go_num, L2.out⟩, by simp [intOf]; omega⟩
      · rw [decide_eq_false hc] at h50
        subst h50
        go_wp2_with fail
        refine (show Calls Tryz.prog 12 #[.pointer (some ⟨sg, 0, none⟩)] wq _ from L.out.hs ▸ sVotes_ok L.out.rep (by have := L.out.len; omega)).mono ?_
        rintro e w5 ⟨v9, rfl, h9, gg9, hn9⟩
        have LV := Lib.hid (L.out.up gg9)
        have HZL := Lib.hid (show ∀ k, z.foot k → k < wq.heap.size from fun k hk => L.out.rep.lt hk)
        have HN9 := Lib.hid (show (∀ k, z.foot k → k < w5.heap.size) ∧ ∀ b, v9.ownBlock = some b → ¬ z.foot b from ⟨fun k hk => Nat.lt_of_lt_of_le (HZL.out k hk) gg9.size, fun b hb hf => by have h1 := hn9 b hb; have h2 := HZL.out b hf; omega⟩)
        have HLEN := Lib.hid (show z.vs.length ≤ 1000 from Nat.le_trans (Nat.le_add_right _ _) L.out.len)
        have O := OwF.start (fun _ => False) w5
        have H9 := Lib.hid h9
        clear h9 gg9 hn9 L
        go_wp2_with (first | ((with_reducible refine @wpList_at _ _ _ _ _ _ _ (.load 3 (.tmp 77)) rfl ?_); refine wpList_load_one rfl 3 _ rfl b5 1 rfl (.int .i64 a0.h) _ (QH (Lib.grownBy_trans LV.out.grown (O.tch.grown (fun _ h => h.elim)))) Tryz.underlying3 rfl ?_) | ((with_reducible refine @wpList_at _ _ _ _ _ _ _ (.load 3 (.tmp 79)) rfl ?_); refine wpList_load_one rfl 3 _ rfl b5 2 rfl (.int .i64 a0.r) _ (QR (Lib.grownBy_trans LV.out.grown (O.tch.grown (fun _ h => h.elim)))) Tryz.underlying3 rfl ?_) | ((with_reducible refine @wpList_at _ _ _ _ _ _ _ (.load 24 (.tmp 81)) rfl ?_); refine wpList_load_one rfl 24 _ rfl b5 3 rfl (.int .i64 a0.t) _ (QT (Lib.grownBy_trans LV.out.grown (O.tch.grown (fun _ h => h.elim)))) Tryz.underlying24 rfl ?_) | ((with_reducible refine @wpList_at _ _ _ _ _ _ _ (.load 26 (.tmp 83)) rfl ?_); refine wpList_load_part rfl 26 _ rfl b5 4 rfl (Lib.byteCells a0.block) _ (QB (Lib.grownBy_trans LV.out.grown (O.tch.grown (fun _ h => h.elim)))) Tryz.underlying26 rfl (sizeH _ (by rw [Lib.byteCells_length, HA0.out.block])) ?_) | ((with_reducible refine @wpList_at _ _ _ _ _ _ _ (.load 3 (.tmp 88)) rfl ?_); refine wpList_load_one rfl 3 _ rfl b5 1 rfl (.int .i64 a0.h) _ (QH (Lib.grownBy_trans LV.out.grown (O.tch.grown (fun _ h => h.elim)))) Tryz.underlying3 rfl ?_) | ((with_reducible refine @wpList_at _ _ _ _ _ _ _ (.load 3 (.tmp 90)) rfl ?_); refine wpList_load_one rfl 3 _ rfl b5 2 rfl (.int .i64 a0.r) _ (QR (Lib.grownBy_trans LV.out.grown (O.tch.grown (fun _ h => h.elim)))) Tryz.underlying3 rfl ?_) | ((with_reducible refine @wpList_at _ _ _ _ _ _ _ (.load 24 (.tmp 92)) rfl ?_); refine wpList_load_one rfl 24 _ rfl b5 3 rfl (.int .i64 a0.t) _ (QT (Lib.grownBy_trans LV.out.grown (O.tch.grown (fun _ h => h.elim)))) Tryz.underlying24 rfl ?_) | ((with_reducible refine @wpList_at _ _ _ _ _ _ _ (.load 26 (.tmp 94)) rfl ?_); refine wpList_load_part rfl 26 _ rfl b5 4 rfl (Lib.byteCells a0.block) _ (QB (Lib.grownBy_trans LV.out.grown (O.tch.grown (fun _ h => h.elim)))) Tryz.underlying26 rfl (sizeH _ (by rw [Lib.byteCells_length, HA0.out.block])) ?_) | ((with_reducible refine @wpList_at _ _ _ _ _ _ _ (.build 40 _) rfl ?_); refine wpList_build_eq rfl 40 _ rfl [(0, .string chA), (1, .int .i64 a0.h), (2, .int .i64 a0.r), (3, .int .i64 a0.t), (4, .agg (Lib.byteCells a0.block).toArray)] (by kernel_rfl) V.cells BV.out ?_) | ((with_reducible refine @wpList_at _ _ _ _ _ _ _ (.alloc 40) rfl ?_); refine @wpList_of_alloc _ _ _ _ _ _ _ _ _ _ 40 rfl ZVote ZVote_info O rfl ?_; clear O; intro b12 w O) | ((with_reducible refine @wpList_at _ _ _ _ _ _ _ (.store 40 (.tmp 12) (.tmp 85)) rfl ?_); refine @wpList_of_store _ _ _ _ _ _ _ _ _ _ 40 (.tmp 12) (.tmp 85) rfl O 0 b12 rfl V.cells ZVote _ rfl rfl (by rw [HVL.out]; rfl) (VoteD_one _) (sizeVote _ HVL.out) rfl ?_; clear O; intro w O; simp only [List.set_cons_zero] at O))
        refine (live_signT (LV.out.up (O.tch.grown (fun _ h => h.elim))) a0.h a0.r a0.t a0.block HA0.out.h HA0.out.r HA0.out.t HA0.out.block (HR.out.grown HGA.out (by simp))).mono ?_
        rintro e w6 ⟨z2, hL2, hres, ht⟩
        rw [HVE.out] at hres
        obtain ⟨RVD, c, rfl, hon⟩ := on_res hres
        have L2 := Lib.hid hL2
        have HON := Lib.hid hon
        have hb12 := ht.blk (O.at_ 0 rfl) (fun hf => by have h1 := HN9.out.1 _ hf; have h2 := (O.lie 0 rfl).resolve_right id; omega)
        have hv9 := (H9.out.grown (O.tch.grown (fun _ h => h.elim))).tch ht HN9.out.2
        have HB12 := Lib.hid hb12; have HV9 := Lib.hid hv9
        have HVWF := Lib.hid LV.out.rep.wf
        have HRW := Lib.hid (on_wf HXX.out HVW.out LV.out.rep.wf hon)
        have HRL := Lib.hid (RVD.cells_length HRW.out)
        obtain ⟨vs, hvs⟩ : ∃ l, z.vs = l := ⟨_, rfl⟩
        rw [hvs] at HV9 HVWF HLEN HON
        clear hL2 hres ht hon hb12 hv9 O H9 hvs HN9 HZL LV
        have O := OwF.start (fun _ => False) w6
        go_wp2_with (first | ((with_reducible refine @wpList_at _ _ _ _ _ _ _ (.alloc 40) rfl ?_); refine @wpList_of_alloc _ _ _ _ _ _ _ _ _ _ 40 rfl ZVote ZVote_info O rfl ?_; clear O; intro b13 w O) | ((with_reducible refine @wpList_at _ _ _ _ _ _ _ (.store 40 (.tmp 13) (.tmp 97)) rfl ?_); refine @wpList_of_store _ _ _ _ _ _ _ _ _ _ 40 (.tmp 13) (.tmp 97) rfl O 0 b13 rfl RVD.cells ZVote _ rfl rfl (by rw [HRL.out]; rfl) (VoteD_one _) (sizeVote _ HRL.out) rfl ?_; clear O; intro w O; simp only [List.set_cons_zero] at O))
        refine (show Calls Tryz.prog 12 #[.pointer (some ⟨sg, 0, none⟩)] w _ from L2.out.hs ▸ sVotes_ok (L2.out.up (O.tch.grown (fun _ h => h.elim))).rep (by have := L2.out.len; omega)).mono ?_
        rintro e w7 ⟨v15, rfl, h15, gg, _⟩
        replace O := O.call gg
        obtain ⟨a15, c15, hv15, _⟩ := h15.shape
        subst hv15
        have H15 := Lib.hid h15; have HB13 := Lib.hid (O.at_ 0 rfl)
        replace HV9 := Lib.hid (HV9.out.grown (O.tch.grown (fun _ h => h.elim))); replace HB12 := Lib.hid (HB12.out.grown (O.tch.grown (fun _ h => h.elim)) (by simp))
        replace L2 := Lib.hid (L2.out.up (O.tch.grown (fun _ h => h.elim)))
        clear h15 gg O
        have O := OwF.start (fun _ => False) w7
        go_wp2_with (first | ((with_reducible refine @wpList_at _ _ _ _ _ _ _ (.load 40 (.tmp 12)) rfl ?_); refine wpList_load_part rfl 40 _ rfl b12 0 rfl V.cells _ ((HB12.out.grown (O.tch.grown (fun _ h => h.elim)) (by simp)).row) Tryz.underlying40 rfl (sizeVote _ HVL.out) ?_))
        refine (enc_code V HVW.out w7).mono ?_
        rintro e w8 ⟨ea, en, ek, rfl, g8⟩
        replace O := O.call g8
        clear g8
        obtain ⟨gc, hgc⟩ : ∃ gc : Int, (if okVote V = true then (0 : Int) else 61) = gc := ⟨_, rfl⟩
        rw [hgc]
        have HGC := Lib.hid hgc
        clear hgc
        obtain ⟨LAT, hlat⟩ : ∃ b, latB vs V = b := ⟨_, rfl⟩
        have HLT := Lib.hid hlat
        clear hlat
        obtain ⟨a9, c9, hv9s, _, hc9⟩ := HV9.out.shape
        rw [hv9s] at HV9 ⊢
        clear hv9s
        unfold maxLen at hc9
        obtain ⟨q, hq⟩ : ∃ q, vs.length = q := ⟨_, rfl⟩
        have HQ := Lib.hid hq
        rw [hq] at HLEN ⊢
        have HQL := Lib.hid HLEN.out
        clear hq
        go_upto_region 14 with fail
        go_cut [18] from 106 to 118 (fun s18 w' => s18 = .bool LAT ∧ w8.grownBy w' none)
        case first =>
          by_cases hq0 : q = 0
          · subst hq0
            have hlt : LAT = true := by rw [← HLT.out]; unfold latB; rw [HQ.out]; rfl
            subst hlt
            replace O := O.drew
            refine wp_region_J (rdf []) [] (by as_aux_lemma => kernel_rfl) RdA.nil (fun hH => ?_)
            refine jp 0 ((.slice a9 0 c9)) (Still.all hH) ?_ (hk := by as_aux_lemma => kernel_rfl)
            simp only [Act.put, jq1, jq3, jq4, jq5, jq6]
            refine jp 1 ((.int .i64 0)) (Still.all hH) ?_ (hk := by as_aux_lemma => kernel_rfl)
            simp only [Act.put, jq1, jq2, jq3, jq4, jq5, jq6]
            refine jp 2 ((.bool true)) (Still.all hH) ?_ (hk := by as_aux_lemma => kernel_rfl)
            simp only [Act.put, jq1, jq2, jq3, jq4, jq5, jq6]
            refine jp 3 ((.bool true)) (Still.all hH) ?_ (hk := by as_aux_lemma => kernel_rfl)
            simp only [Act.put, jq1, jq2, jq3, jq4, jq5, jq6]
            refine jp 4 undef (Still.all hH) ?_ (hy := Or.inr ⟨by rfl, rfl⟩) (hk := by as_aux_lemma => kernel_rfl)
            simp only [Act.put, jq1, jq2, jq3, jq4, jq5, jq6]
            refine jp 5 undef (Still.all hH) ?_ (hy := Or.inr ⟨by rfl, rfl⟩) (hk := by as_aux_lemma => kernel_rfl)
            simp only [Act.put, jq1, jq2, jq3, jq4, jq5, jq6]
            refine jp 6 undef (Still.all hH) ?_ (hy := Or.inr ⟨by rfl, rfl⟩) (hk := by as_aux_lemma => kernel_rfl)
            simp only [Act.put, jq1, jq2, jq3, jq4, jq5, jq6]
            refine jp 7 undef (Still.all hH) ?_ (hy := Or.inr ⟨by rfl, rfl⟩) (hk := by as_aux_lemma => kernel_rfl)
            simp only [Act.put, jq1, jq2, jq3, jq4, jq5, jq6]
            refine jp 8 undef (Still.all hH) ?_ (hy := Or.inr ⟨by rfl, rfl⟩) (hk := by as_aux_lemma => kernel_rfl)
            simp only [Act.put, jq1, jq2, jq3, jq4, jq5, jq6]
            refine jp 9 undef (Still.all hH) ?_ (hy := Or.inr ⟨by rfl, rfl⟩) (hk := by as_aux_lemma => kernel_rfl)
            simp only [Act.put, jq1, jq2, jq3, jq4, jq5, jq6]
            refine jp 10 undef (Still.all hH) ?_ (hy := Or.inr ⟨by rfl, rfl⟩) (hk := by as_aux_lemma => kernel_rfl)
            simp only [Act.put, jq1, jq2, jq3, jq4, jq5, jq6]
            refine jp 11 undef (Still.all hH) ?_ (hy := Or.inr ⟨by rfl, rfl⟩) (hk := by as_aux_lemma => kernel_rfl)
            simp only [Act.put, jq1, jq2, jq3, jq4, jq5, jq6]
            refine jp 12 ((.bool true)) (Still.all hH) ?_ (hk := by as_aux_lemma => kernel_rfl)
            simp only [Act.put, jq1, jq2, jq3, jq4, jq5, jq6]
            refine jp 13 ((.bool true)) (Still.all hH) ?_ (hk := by as_aux_lemma => kernel_rfl)
            simp only [Act.put, jq1, jq2, jq3, jq4, jq5, jq6]
            refine wpAnyJ_done (by as_aux_lemma => kernel_rfl) ?_ _
            clear hH
            go_wp2_with fail
            go_meet
            case rel => exact ⟨rfl, dr1s _⟩
          · obtain ⟨m, rfl⟩ : ∃ m, q = m + 1 := ⟨q - 1, by omega⟩
            obtain ⟨g9, o9, c92, e9, _, _, hvr⟩ := votes_at HV9.out HVWF.out m (by rw [HQ.out]; omega)
            rw [lastV_at HQ.out] at hvr
            rw [HQ.out] at e9
            obtain ⟨rfl, rfl⟩ : a9 = some ⟨g9, o9, none⟩ ∧ c9 = c92 := by injection e9 with h1 _ h2; exact ⟨h1, h2⟩
            have HX := Lib.hid (HVWF.out _ (lastV_mem (l := vs) (by rw [HQ.out]; omega)))
            have CAH := Lib.hid (fun W => RAhead_ok (lastV vs) V W)
            obtain ⟨bA, hbA⟩ : ∃ b, aheadB (lastV vs).pl V.pl = b := ⟨_, rfl⟩
            have hlt : LAT = bA := by rw [← HLT.out]; unfold latB lastP; rw [HQ.out, hbA]; simp
            rw [hbA, ← hlt] at CAH
            clear hlt
            obtain ⟨X, hXX⟩ : ∃ X, lastV vs = X := ⟨_, rfl⟩
            rw [hXX] at hvr HX CAH
            have FR := Lib.hid hvr
            have ew := IntWalk.i64_in (m : Int) (by have := HQL.out; omega)
            have hix : ¬ ((m : Int) + 1 ≤ (m : Int)) := by omega
            have hz1 : (((m : Int) + 1) == 0) = false := by simp; omega
            clear hvr e9 hbA hXX hq0
            replace O := O.drew
            refine wp_region_J (rdf [(9, g9, (o9 + m * 39), X.cells), (10, b12, 0, V.cells)]) [11] (by as_aux_lemma => kernel_rfl) (RdA.cons (FR.out.grown (O.tch.grown (fun _ h => h.elim)) (by simp)) (RdA.cons ((HB12.out.grown (O.tch.grown (fun _ h => h.elim)) (by simp)).row) RdA.nil)) (fun hH => ?_)
            refine jp 0 ((.slice (some ⟨g9, o9, none⟩) (m + 1) c9)) (Still.all hH) ?_ (hk := by as_aux_lemma => kernel_rfl)
            simp only [Act.put, jq1, jq2, jq3, jq4, jq5, jq6]
            refine jp 1 ((.int .i64 ((m + 1 : Nat) : Int))) (Still.all hH) ?_ (hk := by as_aux_lemma => kernel_rfl)
            simp only [Act.put, jq1, jq3, jq4, jq5, jq6]
            refine jp 2 ((.bool false)) (Still.all hH) ?_ (hk := by as_aux_lemma => kernel_rfl)
            simp only [Act.put, jq1, jq2, jq3, jq4, jq5, jq6]
            refine jp 3 ((.bool false)) (Still.all hH) ?_ (hk := by as_aux_lemma => kernel_rfl)
            simp only [Act.put, jq1, jq2, jq3, jq4, jq5, jq6]
            refine jp 4 ((.slice (some ⟨g9, o9, none⟩) (m + 1) c9)) (Still.all hH) ?_ (hk := by as_aux_lemma => kernel_rfl)
            simp only [Act.put, jq1, jq2, jq3, jq4, jq5, jq6]
            refine jp 5 ((.slice (some ⟨g9, o9, none⟩) (m + 1) c9)) (Still.all hH) ?_ (hk := by as_aux_lemma => kernel_rfl)
            simp only [Act.put, jq1, jq2, jq3, jq4, jq5, jq6]
            refine jp 6 ((.int .i64 ((m + 1 : Nat) : Int))) (Still.all hH) ?_ (hk := by as_aux_lemma => kernel_rfl)
            simp only [Act.put, jq1, jq2, jq3, jq4, jq5, jq6]
            refine jp 7 ((.int .i64 (m : Int))) (Still.all hH) ?_ (hk := by as_aux_lemma => kernel_rfl)
            simp only [Act.put, jq1, jq2, jq3, jq4, jq5, jq6]
            refine jp 8 ((.pointer (some ⟨g9, o9 + m * 39, none⟩))) (Still.all hH) ?_ (hk := by as_aux_lemma => kernel_rfl)
            simp only [Act.put, jq1, jq2, jq3, jq4, jq5, jq6]
            refine jr 0 9 ((.agg (X.cells).toArray)) rfl rfl (yieldsIf_load_mid (by rfl) 40 _ rfl g9 (o9 + m * 39) rfl X.cells _ (fun W h => h) Tryz.underlying40 rfl (X.size HX.out)) (Still.all hH) ?_ (hk := by as_aux_lemma => kernel_rfl)
            simp only [Act.put, jq1, jq2, jq3, jq4, jq5, jq6]
            refine jr 1 10 ((.agg (V.cells).toArray)) rfl rfl (yieldsIf_load_mid (by rfl) 40 _ rfl b12 0 rfl V.cells _ (fun W h => h) Tryz.underlying40 rfl (sizeVote _ HVL.out)) (Still.all hH) ?_ (hk := by as_aux_lemma => kernel_rfl)
            simp only [Act.put, jq1, jq2, jq3, jq4, jq5, jq6]
            refine wpAnyJ_ready (rs := [11]) (by as_aux_lemma => kernel_rfl) (by simp) ?_
            refine AllJ.keep rfl (by rfl) (by rfl) (fun K hK => ?_) (AllJ.nil)
            refine wp_call 14 _ _ (by rfl) (enters Tryz.func14 (by kernel_rfl) rfl) (by rfl) (CAH.out _) ?_
            rintro e u ⟨rfl, g9⟩
            refine ⟨_, rfl, ?_⟩
            replace O := O.call g9
            have G9C := Lib.hid (Lib.grownBy_trans (dr1s w8) g9)
            simp only [Act.put, jq1, jq2, jq3, jq4, jq5, jq6]
            refine hK.out _ _ (RdA.grown hH g9) ?_
            replace hH := RdA.grown hH g9
            clear hK K
            clear g9
            refine jp 12 ((.bool LAT)) (Still.all hH) ?_ (hk := by as_aux_lemma => kernel_rfl)
            simp only [Act.put, jq1, jq2, jq3, jq4, jq5, jq6]
            refine jp 13 ((.bool LAT)) (Still.all hH) ?_ (hk := by as_aux_lemma => kernel_rfl)
            simp only [Act.put, jq1, jq2, jq3, jq4, jq5, jq6]
            refine wpAnyJ_done (by as_aux_lemma => kernel_rfl) ?_ _
            clear hH
            go_wp2_with fail
            go_meet
            case rel => exact ⟨rfl, G9C.out⟩
        obtain ⟨h18, g14⟩ := hcut
        replace O := O.call g14
        subst h18
        clear g14
        cases hlat : LAT with
        | true =>
          rw [hlat] at HLT
          clear hlat
          by_cases ho : okVote V = true
          · obtain ⟨rfl, hvs2, hRb, hRh⟩ := on_A hk HON.out HLT.out ho
            have hgc : gc = 0 := by rw [← HGC.out, if_pos ho]
            subst hgc
            have hl15 : z2.vs.length = q + 1 := by rw [hvs2, List.length_append, HQ.out]; rfl
            have hx15 := votes_at H15.out L2.out.rep.wf q (by omega)
            have hge : z2.vs[q]'(by omega) = RVD := by
              have h1 : z2.vs[q]? = some RVD := by rw [hvs2, List.getElem?_append_right (by rw [HQ.out]; exact Nat.le_refl q), HQ.out]; simp
              rw [List.getElem?_eq_getElem (by omega)] at h1
              exact Option.some.inj h1
            rw [hge] at hx15
            obtain ⟨g15, o15, c152, e15, _, _, r15⟩ := hx15
            obtain ⟨rfl, rfl⟩ : a15 = some ⟨g15, o15, none⟩ ∧ c15 = c152 := by injection e15 with h1 _ h2; exact ⟨h1, h2⟩
            rw [hl15]
            have FR15 := Lib.hid r15
            have HBB0 := Lib.hid (show VEq (Lib.byteCells a0.block) (Lib.byteCells a0.block) = true by rw [VEq.bytes]; simp)
            have HRb := Lib.hid (hRb.trans HVP.out.2.1); have HRh := Lib.hid (hRh.trans HVP.out.2.2)
            have ew := IntWalk.i64_in ((q : Int) + 1) (by have := HQL.out; omega)
            have hix : ¬ ((q : Int) + 1 ≤ (q : Int)) := by omega
            clear hx15 hvs2 hRb hRh hge e15 r15 ho
            clear hl15
            go_upto_region 16 with fail
            replace O := O.drew
            have fb13 : ∀ {W : World}, w7.grownBy W none → RowAt W b13 4 (Lib.byteCells a0.block) := fun gg => by have := (VoteD.At.of_row HRW.out (HB13.out.grown gg (by simp)).row).block; rwa [HRb.out, Nat.zero_add] at this
            have fh13 : ∀ {W : World}, w7.grownBy W none → RowAt W b13 1 [.int .i64 a0.h] := fun gg => by have := RowAt.one ((HB13.out.grown gg (by simp)).row 1 _ rfl); rw [HRh.out] at this; exact this
            refine wp_region_J (rdf [(18, g15, (o15 + q * 39), RVD.cells), (19, b13, 0, RVD.cells), (24, b13, 4, (Lib.byteCells a0.block)), (26, b5, 4, (Lib.byteCells a0.block)), (31, b13, 1, [(.int .i64 a0.h)]), (33, b5, 1, [(.int .i64 a0.h)])]) [0] (by as_aux_lemma => kernel_rfl) (RdA.cons (FR15.out.grown (O.tch.grown (fun _ h => h.elim)) (by simp)) (RdA.cons ((HB13.out.grown (O.tch.grown (fun _ h => h.elim)) (by simp)).row) (RdA.cons (fb13 (O.tch.grown (fun _ h => h.elim))) (RdA.cons (QB (Lib.grownBy_trans L2.out.grown (O.tch.grown (fun _ h => h.elim)))) (RdA.cons (fh13 (O.tch.grown (fun _ h => h.elim))) (RdA.cons (QH (Lib.grownBy_trans L2.out.grown (O.tch.grown (fun _ h => h.elim)))) RdA.nil)))))) (fun hH => ?_)
            refine wpAnyJ_ready (rs := [0]) (by as_aux_lemma => kernel_rfl) (by simp) ?_
            refine AllJ.keep rfl (by rfl) (by rfl) (fun K hK => ?_) (AllJ.nil)
            refine wp_call 10 _ _ (by rfl) (enters Tryz.func10 (by kernel_rfl) rfl) (by rfl) (CA.out _ (Lib.grownBy_trans HGA.out (Lib.grownBy_trans L2.out.grown (O.tch.grown (fun _ h => h.elim))))) ?_
            rintro e u ⟨rfl, g9⟩
            refine ⟨_, rfl, ?_⟩
            replace O := O.call g9
            simp only [Act.put, jq1, jq2, jq3, jq4, jq5, jq6]
            refine hK.out _ _ (RdA.grown hH g9) ?_
            replace hH := RdA.grown hH g9
            clear hK K
            clear g9
            refine jp 1 ((.bool true)) (Still.all hH) ?_ (hk := by as_aux_lemma => kernel_rfl)
            simp only [Act.put, jq1, jq2, jq3, jq4, jq5, jq6]
            refine jp 2 ((.int .i64 0)) (Still.all hH) ?_ (hk := by as_aux_lemma => kernel_rfl)
            simp only [Act.put, jq1, jq3, jq4, jq5, jq6]
            refine jp 3 ((.bool true)) (Still.all hH) ?_ (hk := by as_aux_lemma => kernel_rfl)
            simp only [Act.put, jq1, jq2, jq3, jq4, jq5, jq6]
            refine jp 4 ((.bool true)) (Still.all hH) ?_ (hk := by as_aux_lemma => kernel_rfl)
            simp only [Act.put, jq1, jq2, jq3, jq4, jq5, jq6]
            refine jp 5 ((.bool true)) (Still.all hH) ?_ (hk := by as_aux_lemma => kernel_rfl)
            simp only [Act.put, jq1, jq2, jq3, jq4, jq5, jq6]
            refine jp 6 ((.slice (some ⟨g15, o15, none⟩) (q + 1) c15)) (Still.all hH) ?_ (hk := by as_aux_lemma => kernel_rfl)
            simp only [Act.put, jq1, jq2, jq3, jq4, jq5, jq6]
            refine jp 7 ((.int .i64 ((q : Int) + 1))) (Still.all hH) ?_ (hk := by as_aux_lemma => kernel_rfl)
            simp only [Act.put, jq1, jq2, jq3, jq4, jq5, jq6]
            refine jp 8 ((.slice a9 q c9)) (Still.all hH) ?_ (hk := by as_aux_lemma => kernel_rfl)
            simp only [Act.put, jq1, jq2, jq3, jq4, jq5, jq6]
            refine jp 9 ((.int .i64 (q : Int))) (Still.all hH) ?_ (hk := by as_aux_lemma => kernel_rfl)
            simp only [Act.put, jq1, jq2, jq3, jq4, jq5, jq6]
            refine jp 10 ((.int .i64 ((q : Int) + 1))) (Still.all hH) ?_ (hk := by as_aux_lemma => kernel_rfl)
            simp only [Act.put, jq1, jq2, jq3, jq4, jq5, jq6]
            refine jp 11 ((.bool true)) (Still.all hH) ?_ (hk := by as_aux_lemma => kernel_rfl)
            simp only [Act.put, jq1, jq2, jq3, jq4, jq5, jq6]
            refine jp 12 ((.bool true)) (Still.all hH) ?_ (hk := by as_aux_lemma => kernel_rfl)
            simp only [Act.put, jq1, jq2, jq3, jq4, jq5, jq6]
            refine jp 13 ((.bool true)) (Still.all hH) ?_ (hk := by as_aux_lemma => kernel_rfl)
            simp only [Act.put, jq1, jq2, jq3, jq4, jq5, jq6]
            refine jp 14 ((.slice (some ⟨g15, o15, none⟩) (q + 1) c15)) (Still.all hH) ?_ (hk := by as_aux_lemma => kernel_rfl)
            simp only [Act.put, jq1, jq2, jq3, jq4, jq5, jq6]
            refine jp 15 ((.slice a9 q c9)) (Still.all hH) ?_ (hk := by as_aux_lemma => kernel_rfl)
            simp only [Act.put, jq1, jq2, jq3, jq4, jq5, jq6]
            refine jp 16 ((.int .i64 (q : Int))) (Still.all hH) ?_ (hk := by as_aux_lemma => kernel_rfl)
            simp only [Act.put, jq1, jq2, jq3, jq4, jq5, jq6]
            refine jp 17 ((.pointer (some ⟨g15, o15 + q * 39, none⟩))) (Still.all hH) ?_ (hk := by as_aux_lemma => kernel_rfl)
            simp only [Act.put, jq1, jq2, jq3, jq4, jq5, jq6]
            refine jr 0 18 ((.agg (RVD.cells).toArray)) rfl rfl (yieldsIf_load_mid (by rfl) 40 _ rfl g15 (o15 + q * 39) rfl RVD.cells _ (fun W h => h) Tryz.underlying40 rfl (RVD.size HRW.out)) (Still.all hH) ?_ (hk := by as_aux_lemma => kernel_rfl)
            simp only [Act.put, jq1, jq2, jq3, jq4, jq5, jq6]
            refine jr 1 19 ((.agg (RVD.cells).toArray)) rfl rfl (yieldsIf_load_mid (by rfl) 40 _ rfl b13 0 rfl RVD.cells _ (fun W h => h) Tryz.underlying40 rfl (RVD.size HRW.out)) (Still.all hH) ?_ (hk := by as_aux_lemma => kernel_rfl)
            simp only [Act.put, jq1, jq2, jq3, jq4, jq5, jq6]
            refine jp 20 ((.bool true)) (Still.all hH) ?_ (hy := yields_eql (by rfl) 40 40 _ _ rfl RVD.cells RVD.cells voteK rfl rfl vote_flat (RVD.fits HRW.out) (RVD.fits HRW.out) (by kernel_rfl) (by kernel_rfl) _ (veq_vote HRW.out)) (hk := by as_aux_lemma => kernel_rfl)
            simp only [Act.put, jq1, jq2, jq3, jq4, jq5, jq6]
            refine jp 21 ((.bool true)) (Still.all hH) ?_ (hk := by as_aux_lemma => kernel_rfl)
            simp only [Act.put, jq1, jq2, jq3, jq4, jq5, jq6]
            refine jp 22 ((.bool true)) (Still.all hH) ?_ (hk := by as_aux_lemma => kernel_rfl)
            simp only [Act.put, jq1, jq2, jq3, jq4, jq5, jq6]
            refine jp 23 ((.pointer (some ⟨b13, 4, none⟩))) (Still.all hH) ?_ (hk := by as_aux_lemma => kernel_rfl)
            simp only [Act.put, jq1, jq2, jq3, jq4, jq5, jq6]
            refine jr 2 24 ((.agg ((Lib.byteCells a0.block)).toArray)) rfl rfl (yieldsIf_load_mid (by rfl) 26 _ rfl b13 4 rfl (Lib.byteCells a0.block) _ (fun W h => h) Tryz.underlying26 rfl (sizeH _ (by rw [Lib.byteCells_length, HA0.out.block]))) (Still.all hH) ?_ (hk := by as_aux_lemma => kernel_rfl)
            simp only [Act.put, jq1, jq2, jq3, jq4, jq5, jq6]
            refine jp 25 ((.pointer (some ⟨b5, 4, none⟩))) (Still.all hH) ?_ (hk := by as_aux_lemma => kernel_rfl)
            simp only [Act.put, jq1, jq2, jq3, jq4, jq5, jq6]
            refine jr 3 26 ((.agg ((Lib.byteCells a0.block)).toArray)) rfl rfl (yieldsIf_load_mid (by rfl) 26 _ rfl b5 4 rfl (Lib.byteCells a0.block) _ (fun W h => h) Tryz.underlying26 rfl (sizeH _ (by rw [Lib.byteCells_length, HA0.out.block]))) (Still.all hH) ?_ (hk := by as_aux_lemma => kernel_rfl)
            simp only [Act.put, jq1, jq2, jq3, jq4, jq5, jq6]
            refine jp 27 ((.bool true)) (Still.all hH) ?_ (hy := yields_eql (by rfl) 26 26 _ _ rfl (Lib.byteCells a0.block) (Lib.byteCells a0.block) kHash rfl rfl hash_flat (hash_fits _ HA0.out.block) (hash_fits _ HA0.out.block) (by kernel_rfl) (by kernel_rfl) _ HBB0.out) (hk := by as_aux_lemma => kernel_rfl)
            simp only [Act.put, jq1, jq2, jq3, jq4, jq5, jq6]
            refine jp 28 ((.bool true)) (Still.all hH) ?_ (hk := by as_aux_lemma => kernel_rfl)
            simp only [Act.put, jq1, jq2, jq3, jq4, jq5, jq6]
            refine jp 29 ((.bool true)) (Still.all hH) ?_ (hk := by as_aux_lemma => kernel_rfl)
            simp only [Act.put, jq1, jq2, jq3, jq4, jq5, jq6]
            refine jp 30 ((.pointer (some ⟨b13, 1, none⟩))) (Still.all hH) ?_ (hk := by as_aux_lemma => kernel_rfl)
            simp only [Act.put, jq1, jq2, jq3, jq4, jq5, jq6]
            refine jr 4 31 ((.int .i64 a0.h)) rfl rfl (yields_cell (by rfl) 3 _ rfl b13 1 rfl (.int .i64 a0.h) _ (fun W h => h) Tryz.underlying3 rfl) (Still.all hH) ?_ (hk := by as_aux_lemma => kernel_rfl)
            simp only [Act.put, jq1, jq2, jq3, jq4, jq5, jq6]
            refine jp 32 ((.pointer (some ⟨b5, 1, none⟩))) (Still.all hH) ?_ (hk := by as_aux_lemma => kernel_rfl)
            simp only [Act.put, jq1, jq2, jq3, jq4, jq5, jq6]
            refine jr 5 33 ((.int .i64 a0.h)) rfl rfl (yields_cell (by rfl) 3 _ rfl b5 1 rfl (.int .i64 a0.h) _ (fun W h => h) Tryz.underlying3 rfl) (Still.all hH) ?_ (hk := by as_aux_lemma => kernel_rfl)
            simp only [Act.put, jq1, jq2, jq3, jq4, jq5, jq6]
            refine jp 34 ((.bool true)) (Still.all hH) ?_ (hk := by as_aux_lemma => kernel_rfl)
            simp only [Act.put, jq1, jq2, jq3, jq4, jq5, jq6]
            refine jp 35 ((.bool true)) (Still.all hH) ?_ (hk := by as_aux_lemma => kernel_rfl)
            simp only [Act.put, jq1, jq2, jq3, jq4, jq5, jq6]
            refine jp 36 ((.bool true)) (Still.all hH) ?_ (hk := by as_aux_lemma => kernel_rfl)
            simp only [Act.put, jq1, jq2, jq3, jq4, jq5, jq6]
            refine wpAnyJ_done (by as_aux_lemma => kernel_rfl) ?_ _
            clear hH
            go_wp2_with fail
            go_ret
            exact ⟨rfl, Lib.grownBy_trans HGA.out (Lib.grownBy_trans L2.out.grown (O.tch.grown (fun _ h => h.elim)))⟩
          · have ho' : okVote V = false := by simpa using ho
            obtain ⟨rfl, hvs2⟩ := on_B HON.out HLT.out ho'
            have hgc : gc = 61 := by rw [← HGC.out, if_neg ho]
            subst hgc
            have h15 := H15.out
            rw [hvs2] at h15 ⊢
            have CSV := Lib.hid (fun W (g : w7.grownBy W none) => show Calls Tryz.prog 15 #[.slice a15 q c15, .slice a9 q c9] W (fun e w' => e = .returned (.bool true) ∧ W.grownBy w' none) from (by have := SameVotes_same (l := vs) (h15.grown g) (HV9.out.grown g) HVWF.out; rwa [HQ.out] at this))
            rw [HQ.out]
            clear ho ho' hvs2 h15
            go_wp2_with fail
            refine (CA.out _ (Lib.grownBy_trans HGA.out (Lib.grownBy_trans L2.out.grown (O.tch.grown (fun _ h => h.elim))))).mono ?_
            rintro e wz ⟨rfl, gz⟩
            replace O := O.call gz
            clear gz
            go_wp2_with fail
            refine (CSV.out _ (O.tch.grown (fun _ h => h.elim))).mono ?_
            rintro e wy ⟨rfl, gy⟩
            replace O := O.call gy
            clear gy
            go_wp2_with fail
            go_ret
            exact ⟨rfl, Lib.grownBy_trans HGA.out (Lib.grownBy_trans L2.out.grown (O.tch.grown (fun _ h => h.elim)))⟩
        | false =>
          rw [hlat] at HLT
          clear hlat
          obtain ⟨hvs2, hcs⟩ := on_C HON.out HLT.out
          have hq0 : q ≠ 0 := by rw [← HQ.out]; exact (lat_not HLT.out).1
          obtain ⟨m, rfl⟩ : ∃ m, q = m + 1 := ⟨q - 1, by omega⟩
          obtain ⟨g9, o9, c92, e9, _, _, hvr⟩ := votes_at HV9.out HVWF.out m (by rw [HQ.out]; omega)
          rw [lastV_at HQ.out] at hvr
          rw [HQ.out] at e9
          obtain ⟨rfl, rfl⟩ : a9 = some ⟨g9, o9, none⟩ ∧ c9 = c92 := by injection e9 with h1 _ h2; exact ⟨h1, h2⟩
          have HX := Lib.hid (HVWF.out _ (lastV_mem (l := vs) (by rw [HQ.out]; omega)))
          unfold lastP at hcs
          obtain ⟨X, hXX⟩ : ∃ X, lastV vs = X := ⟨_, rfl⟩
          rw [hXX] at hvr HX hcs
          rw [HVP.out.1, HVP.out.2.1] at hcs
          have HXL := Lib.hid (X.cells_length HX.out)
          have h15 := H15.out
          rw [hvs2] at h15 ⊢
          have FR := Lib.hid hvr
          have ew := IntWalk.i64_in (m : Int) (by have := HQL.out; omega)
          have hix : ¬ ((m : Int) + 1 ≤ (m : Int)) := by omega
          have hpl : X.pl = ⟨a0.h, a0.r, a0.t⟩ ↔ (X.height = a0.h ∧ X.round = a0.r ∧ X.type = a0.t) := by unfold VoteD.pl; rw [Pl.mk.injEq]
          have HPL := Lib.hid hpl
          have CSV := Lib.hid (fun W (g : w7.grownBy W none) => show Calls Tryz.prog 15 #[.slice a15 (m + 1) c15, .slice (some ⟨g9, o9, none⟩) (m + 1) c9] W (fun e w' => e = .returned (.bool true) ∧ W.grownBy w' none) from (by have := SameVotes_same (l := vs) (h15.grown g) (HV9.out.grown g) HVWF.out; rwa [HQ.out] at this))
          rw [HQ.out]
          clear hvs2 hpl hvr e9 hXX hq0 h15
          by_cases e1 : X.height = a0.h
          · have d1 : (X.height == a0.h) = true := beq_iff_eq.2 e1
            by_cases e2 : X.round = a0.r
            · have d2 : (X.round == a0.r) = true := beq_iff_eq.2 e2
              by_cases e3 : X.type = a0.t
              · have d3 : (X.type == a0.t) = true := beq_iff_eq.2 e3
                by_cases e4 : X.block = a0.block
                · rw [if_pos ⟨HPL.out.2 ⟨e1, e2, e3⟩, e4⟩] at hcs
                  obtain ⟨hRX, hc0⟩ := hcs
                  subst hc0
                  rw [hRX] at HB13
                  have HBE := Lib.hid (show VEq (Lib.byteCells X.block) (Lib.byteCells a0.block) = true by rw [VEq.bytes]; exact beq_iff_eq.2 e4)
                  clear e1 e2 e3 e4
                  go_wp2_with (first | ((with_reducible refine @wpList_at _ _ _ _ _ _ _ (.load 40 (.tmp 177)) rfl ?_); refine wpList_load_part rfl 40 _ rfl g9 (o9 + m * 39) rfl X.cells _ (FR.out.grown (O.tch.grown (fun _ h => h.elim)) (by simp)) Tryz.underlying40 rfl (X.size HX.out) ?_) | ((with_reducible refine @wpList_at _ _ _ _ _ _ _ (.alloc 40) rfl ?_); refine @wpList_of_alloc _ _ _ _ _ _ _ _ _ _ 40 rfl ZVote ZVote_info O rfl ?_; clear O; intro b19 w O) | ((with_reducible refine @wpList_at _ _ _ _ _ _ _ (.store 40 (.tmp 19) (.tmp 178)) rfl ?_); refine @wpList_of_store _ _ _ _ _ _ _ _ _ _ 40 (.tmp 19) (.tmp 178) rfl O 0 b19 rfl X.cells ZVote _ rfl rfl (by rw [HXL.out]; rfl) (VoteD_one _) (sizeVote _ HXL.out) rfl ?_; clear O; intro w O; simp only [List.set_cons_zero] at O) | ((with_reducible refine @wpList_at _ _ _ _ _ _ _ (.load 3 (.tmp 179)) rfl ?_); refine @wpList_of_cell _ _ _ _ _ _ _ _ _ _ 3 (.tmp 179) rfl O 0 b19 1 rfl _ _ rfl (.int .i64 X.height) rfl _ Tryz.underlying3 rfl rfl ?_) | ((with_reducible refine @wpList_at _ _ _ _ _ _ _ (.load 3 (.tmp 181)) rfl ?_); refine wpList_load_one rfl 3 _ rfl b5 1 rfl (.int .i64 a0.h) _ (QH (Lib.grownBy_trans L2.out.grown (O.tch.grown (fun _ h => h.elim)))) Tryz.underlying3 rfl ?_) | ((with_reducible refine @wpList_at _ _ _ _ _ _ _ (.load 3 (.tmp 185)) rfl ?_); refine @wpList_of_cell _ _ _ _ _ _ _ _ _ _ 3 (.tmp 185) rfl O 0 b19 2 rfl _ _ rfl (.int .i64 X.round) rfl _ Tryz.underlying3 rfl rfl ?_) | ((with_reducible refine @wpList_at _ _ _ _ _ _ _ (.load 3 (.tmp 187)) rfl ?_); refine wpList_load_one rfl 3 _ rfl b5 2 rfl (.int .i64 a0.r) _ (QR (Lib.grownBy_trans L2.out.grown (O.tch.grown (fun _ h => h.elim)))) Tryz.underlying3 rfl ?_) | ((with_reducible refine @wpList_at _ _ _ _ _ _ _ (.load 24 (.tmp 192)) rfl ?_); refine @wpList_of_cell _ _ _ _ _ _ _ _ _ _ 24 (.tmp 192) rfl O 0 b19 3 rfl _ _ rfl (.int .i64 X.type) rfl _ Tryz.underlying24 rfl rfl ?_) | ((with_reducible refine @wpList_at _ _ _ _ _ _ _ (.load 24 (.tmp 194)) rfl ?_); refine wpList_load_one rfl 24 _ rfl b5 3 rfl (.int .i64 a0.t) _ (QT (Lib.grownBy_trans L2.out.grown (O.tch.grown (fun _ h => h.elim)))) Tryz.underlying24 rfl ?_) | ((with_reducible refine @wpList_at _ _ _ _ _ _ _ (.load 26 (.tmp 199)) rfl ?_); refine @wpList_of_part _ _ _ _ _ _ _ _ _ _ 26 (.tmp 199) rfl O 0 b19 4 rfl _ _ rfl (Lib.byteCells X.block) _ (fun h => (by have := (VoteD.At.of_row HX.out h).block; rwa [Nat.zero_add] at this)) Tryz.underlying26 rfl (sizeH _ (by rw [Lib.byteCells_length, HX.out.block])) rfl ?_) | ((with_reducible refine @wpList_at _ _ _ _ _ _ _ (.load 26 (.tmp 201)) rfl ?_); refine wpList_load_part rfl 26 _ rfl b5 4 rfl (Lib.byteCells a0.block) _ (QB (Lib.grownBy_trans L2.out.grown (O.tch.grown (fun _ h => h.elim)))) Tryz.underlying26 rfl (sizeH _ (by rw [Lib.byteCells_length, HA0.out.block])) ?_) | ((with_reducible refine @wpList_at _ _ _ _ _ _ _ (.binOp .eql 26 (.tmp 200) (.tmp 202) 26) rfl ?_); refine wpList_eql_flat rfl 26 26 _ _ rfl (Lib.byteCells X.block) (Lib.byteCells a0.block) kHash rfl rfl hash_flat (hash_fits _ HX.out.block) (hash_fits _ HA0.out.block) (by kernel_rfl) (by kernel_rfl) ?_; rw [HBE.out]))
                  refine (CA.out _ (Lib.grownBy_trans HGA.out (Lib.grownBy_trans L2.out.grown (O.tch.grown (fun _ h => h.elim))))).mono ?_
                  rintro e wz ⟨rfl, gz⟩
                  replace O := O.call gz
                  clear gz
                  go_wp2_with (first | ((with_reducible refine @wpList_at _ _ _ _ _ _ _ (.load 40 (.tmp 13)) rfl ?_); refine wpList_load_part rfl 40 _ rfl b13 0 rfl X.cells _ ((HB13.out.grown (O.tch.grown (fun _ h => h.elim)) (by simp)).row) Tryz.underlying40 rfl (sizeVote _ HXL.out) ?_) | ((with_reducible refine @wpList_at _ _ _ _ _ _ _ (.load 40 (.tmp 19)) rfl ?_); refine @wpList_of_whole _ _ _ _ _ _ _ _ _ _ 40 (.tmp 19) rfl O 0 b19 rfl X.cells _ rfl _ Tryz.underlying40 rfl (sizeVote _ HXL.out) rfl ?_) | ((with_reducible refine @wpList_at _ _ _ _ _ _ _ (.binOp .eql 40 (.tmp 212) (.tmp 213) 40) rfl ?_); refine wpList_eql_flat rfl 40 40 _ _ rfl X.cells X.cells voteK rfl rfl vote_flat (X.fits HX.out) (X.fits HX.out) (by kernel_rfl) (by kernel_rfl) ?_; rw [veq_vote HX.out]))
                  refine (CSV.out _ (O.tch.grown (fun _ h => h.elim))).mono ?_
                  rintro e wy ⟨rfl, gy⟩
                  replace O := O.call gy
                  clear gy
                  go_wp2_with fail
                  go_ret
                  exact ⟨rfl, Lib.grownBy_trans HGA.out (Lib.grownBy_trans L2.out.grown (O.tch.grown (fun _ h => h.elim)))⟩
                · rw [if_neg (fun h => e4 h.2)] at hcs
                  obtain ⟨hRX, hc0⟩ := hcs
                  subst hc0
                  rw [hRX] at HB13
                  have HBE := Lib.hid (show VEq (Lib.byteCells X.block) (Lib.byteCells a0.block) = false by rw [VEq.bytes]; exact beq_eq_false_iff_ne.2 e4)
                  clear e1 e2 e3 e4
                  go_wp2_with (first | ((with_reducible refine @wpList_at _ _ _ _ _ _ _ (.load 40 (.tmp 177)) rfl ?_); refine wpList_load_part rfl 40 _ rfl g9 (o9 + m * 39) rfl X.cells _ (FR.out.grown (O.tch.grown (fun _ h => h.elim)) (by simp)) Tryz.underlying40 rfl (X.size HX.out) ?_) | ((with_reducible refine @wpList_at _ _ _ _ _ _ _ (.alloc 40) rfl ?_); refine @wpList_of_alloc _ _ _ _ _ _ _ _ _ _ 40 rfl ZVote ZVote_info O rfl ?_; clear O; intro b19 w O) | ((with_reducible refine @wpList_at _ _ _ _ _ _ _ (.store 40 (.tmp 19) (.tmp 178)) rfl ?_); refine @wpList_of_store _ _ _ _ _ _ _ _ _ _ 40 (.tmp 19) (.tmp 178) rfl O 0 b19 rfl X.cells ZVote _ rfl rfl (by rw [HXL.out]; rfl) (VoteD_one _) (sizeVote _ HXL.out) rfl ?_; clear O; intro w O; simp only [List.set_cons_zero] at O) | ((with_reducible refine @wpList_at _ _ _ _ _ _ _ (.load 3 (.tmp 179)) rfl ?_); refine @wpList_of_cell _ _ _ _ _ _ _ _ _ _ 3 (.tmp 179) rfl O 0 b19 1 rfl _ _ rfl (.int .i64 X.height) rfl _ Tryz.underlying3 rfl rfl ?_) | ((with_reducible refine @wpList_at _ _ _ _ _ _ _ (.load 3 (.tmp 181)) rfl ?_); refine wpList_load_one rfl 3 _ rfl b5 1 rfl (.int .i64 a0.h) _ (QH (Lib.grownBy_trans L2.out.grown (O.tch.grown (fun _ h => h.elim)))) Tryz.underlying3 rfl ?_) | ((with_reducible refine @wpList_at _ _ _ _ _ _ _ (.load 3 (.tmp 185)) rfl ?_); refine @wpList_of_cell _ _ _ _ _ _ _ _ _ _ 3 (.tmp 185) rfl O 0 b19 2 rfl _ _ rfl (.int .i64 X.round) rfl _ Tryz.underlying3 rfl rfl ?_) | ((with_reducible refine @wpList_at _ _ _ _ _ _ _ (.load 3 (.tmp 187)) rfl ?_); refine wpList_load_one rfl 3 _ rfl b5 2 rfl (.int .i64 a0.r) _ (QR (Lib.grownBy_trans L2.out.grown (O.tch.grown (fun _ h => h.elim)))) Tryz.underlying3 rfl ?_) | ((with_reducible refine @wpList_at _ _ _ _ _ _ _ (.load 24 (.tmp 192)) rfl ?_); refine @wpList_of_cell _ _ _ _ _ _ _ _ _ _ 24 (.tmp 192) rfl O 0 b19 3 rfl _ _ rfl (.int .i64 X.type) rfl _ Tryz.underlying24 rfl rfl ?_) | ((with_reducible refine @wpList_at _ _ _ _ _ _ _ (.load 24 (.tmp 194)) rfl ?_); refine wpList_load_one rfl 24 _ rfl b5 3 rfl (.int .i64 a0.t) _ (QT (Lib.grownBy_trans L2.out.grown (O.tch.grown (fun _ h => h.elim)))) Tryz.underlying24 rfl ?_) | ((with_reducible refine @wpList_at _ _ _ _ _ _ _ (.load 26 (.tmp 199)) rfl ?_); refine @wpList_of_part _ _ _ _ _ _ _ _ _ _ 26 (.tmp 199) rfl O 0 b19 4 rfl _ _ rfl (Lib.byteCells X.block) _ (fun h => (by have := (VoteD.At.of_row HX.out h).block; rwa [Nat.zero_add] at this)) Tryz.underlying26 rfl (sizeH _ (by rw [Lib.byteCells_length, HX.out.block])) rfl ?_) | ((with_reducible refine @wpList_at _ _ _ _ _ _ _ (.load 26 (.tmp 201)) rfl ?_); refine wpList_load_part rfl 26 _ rfl b5 4 rfl (Lib.byteCells a0.block) _ (QB (Lib.grownBy_trans L2.out.grown (O.tch.grown (fun _ h => h.elim)))) Tryz.underlying26 rfl (sizeH _ (by rw [Lib.byteCells_length, HA0.out.block])) ?_) | ((with_reducible refine @wpList_at _ _ _ _ _ _ _ (.binOp .eql 26 (.tmp 200) (.tmp 202) 26) rfl ?_); refine wpList_eql_flat rfl 26 26 _ _ rfl (Lib.byteCells X.block) (Lib.byteCells a0.block) kHash rfl rfl hash_flat (hash_fits _ HX.out.block) (hash_fits _ HA0.out.block) (by kernel_rfl) (by kernel_rfl) ?_; rw [HBE.out]))
                  refine (CA.out _ (Lib.grownBy_trans HGA.out (Lib.grownBy_trans L2.out.grown (O.tch.grown (fun _ h => h.elim))))).mono ?_
                  rintro e wz ⟨rfl, gz⟩
                  replace O := O.call gz
                  clear gz
                  go_wp2_with (first | ((with_reducible refine @wpList_at _ _ _ _ _ _ _ (.load 40 (.tmp 13)) rfl ?_); refine wpList_load_part rfl 40 _ rfl b13 0 rfl zeroV.cells _ ((HB13.out.grown (O.tch.grown (fun _ h => h.elim)) (by simp)).row) Tryz.underlying40 rfl (sizeVote _ ZVote_length) ?_) | ((with_reducible refine @wpList_at _ _ _ _ _ _ _ (.build 40 #[]) rfl ?_); refine wpList_build_eq rfl 40 _ rfl [] (by kernel_rfl) ZVote bVote0 ?_) | ((with_reducible refine @wpList_at _ _ _ _ _ _ _ (.binOp .eql 40 (.tmp 227) (.tmp 228) 40) rfl ?_); refine wpList_eql_flat rfl 40 40 _ _ rfl zeroV.cells ZVote voteK rfl rfl vote_flat (VoteD.fits _ zeroV_wf) ZV_fits (by kernel_rfl) (by kernel_rfl) ?_; rw [zV_eq]))
                  refine (CSV.out _ (O.tch.grown (fun _ h => h.elim))).mono ?_
                  rintro e wy ⟨rfl, gy⟩
                  replace O := O.call gy
                  clear gy
                  go_wp2_with fail
                  go_ret
                  exact ⟨rfl, Lib.grownBy_trans HGA.out (Lib.grownBy_trans L2.out.grown (O.tch.grown (fun _ h => h.elim)))⟩
              · have d3 : (X.type == a0.t) = false := beq_eq_false_iff_ne.2 e3
                rw [if_neg (fun h => e3 (HPL.out.1 h.1).2.2)] at hcs
                obtain ⟨hRX, hc0⟩ := hcs
                subst hc0
                rw [hRX] at HB13
                have HBE := Lib.hid (rfl : VEq (Lib.byteCells X.block) (Lib.byteCells a0.block) = _)
                clear e1 e2 e3
                go_wp2_with (first | ((with_reducible refine @wpList_at _ _ _ _ _ _ _ (.load 40 (.tmp 177)) rfl ?_); refine wpList_load_part rfl 40 _ rfl g9 (o9 + m * 39) rfl X.cells _ (FR.out.grown (O.tch.grown (fun _ h => h.elim)) (by simp)) Tryz.underlying40 rfl (X.size HX.out) ?_) | ((with_reducible refine @wpList_at _ _ _ _ _ _ _ (.alloc 40) rfl ?_); refine @wpList_of_alloc _ _ _ _ _ _ _ _ _ _ 40 rfl ZVote ZVote_info O rfl ?_; clear O; intro b19 w O) | ((with_reducible refine @wpList_at _ _ _ _ _ _ _ (.store 40 (.tmp 19) (.tmp 178)) rfl ?_); refine @wpList_of_store _ _ _ _ _ _ _ _ _ _ 40 (.tmp 19) (.tmp 178) rfl O 0 b19 rfl X.cells ZVote _ rfl rfl (by rw [HXL.out]; rfl) (VoteD_one _) (sizeVote _ HXL.out) rfl ?_; clear O; intro w O; simp only [List.set_cons_zero] at O) | ((with_reducible refine @wpList_at _ _ _ _ _ _ _ (.load 3 (.tmp 179)) rfl ?_); refine @wpList_of_cell _ _ _ _ _ _ _ _ _ _ 3 (.tmp 179) rfl O 0 b19 1 rfl _ _ rfl (.int .i64 X.height) rfl _ Tryz.underlying3 rfl rfl ?_) | ((with_reducible refine @wpList_at _ _ _ _ _ _ _ (.load 3 (.tmp 181)) rfl ?_); refine wpList_load_one rfl 3 _ rfl b5 1 rfl (.int .i64 a0.h) _ (QH (Lib.grownBy_trans L2.out.grown (O.tch.grown (fun _ h => h.elim)))) Tryz.underlying3 rfl ?_) | ((with_reducible refine @wpList_at _ _ _ _ _ _ _ (.load 3 (.tmp 185)) rfl ?_); refine @wpList_of_cell _ _ _ _ _ _ _ _ _ _ 3 (.tmp 185) rfl O 0 b19 2 rfl _ _ rfl (.int .i64 X.round) rfl _ Tryz.underlying3 rfl rfl ?_) | ((with_reducible refine @wpList_at _ _ _ _ _ _ _ (.load 3 (.tmp 187)) rfl ?_); refine wpList_load_one rfl 3 _ rfl b5 2 rfl (.int .i64 a0.r) _ (QR (Lib.grownBy_trans L2.out.grown (O.tch.grown (fun _ h => h.elim)))) Tryz.underlying3 rfl ?_) | ((with_reducible refine @wpList_at _ _ _ _ _ _ _ (.load 24 (.tmp 192)) rfl ?_); refine @wpList_of_cell _ _ _ _ _ _ _ _ _ _ 24 (.tmp 192) rfl O 0 b19 3 rfl _ _ rfl (.int .i64 X.type) rfl _ Tryz.underlying24 rfl rfl ?_) | ((with_reducible refine @wpList_at _ _ _ _ _ _ _ (.load 24 (.tmp 194)) rfl ?_); refine wpList_load_one rfl 24 _ rfl b5 3 rfl (.int .i64 a0.t) _ (QT (Lib.grownBy_trans L2.out.grown (O.tch.grown (fun _ h => h.elim)))) Tryz.underlying24 rfl ?_) | ((with_reducible refine @wpList_at _ _ _ _ _ _ _ (.load 26 (.tmp 199)) rfl ?_); refine @wpList_of_part _ _ _ _ _ _ _ _ _ _ 26 (.tmp 199) rfl O 0 b19 4 rfl _ _ rfl (Lib.byteCells X.block) _ (fun h => (by have := (VoteD.At.of_row HX.out h).block; rwa [Nat.zero_add] at this)) Tryz.underlying26 rfl (sizeH _ (by rw [Lib.byteCells_length, HX.out.block])) rfl ?_) | ((with_reducible refine @wpList_at _ _ _ _ _ _ _ (.load 26 (.tmp 201)) rfl ?_); refine wpList_load_part rfl 26 _ rfl b5 4 rfl (Lib.byteCells a0.block) _ (QB (Lib.grownBy_trans L2.out.grown (O.tch.grown (fun _ h => h.elim)))) Tryz.underlying26 rfl (sizeH _ (by rw [Lib.byteCells_length, HA0.out.block])) ?_) | ((with_reducible refine @wpList_at _ _ _ _ _ _ _ (.binOp .eql 26 (.tmp 200) (.tmp 202) 26) rfl ?_); refine wpList_eql_flat rfl 26 26 _ _ rfl (Lib.byteCells X.block) (Lib.byteCells a0.block) kHash rfl rfl hash_flat (hash_fits _ HX.out.block) (hash_fits _ HA0.out.block) (by kernel_rfl) (by kernel_rfl) ?_; rw [HBE.out]))
                refine (CA.out _ (Lib.grownBy_trans HGA.out (Lib.grownBy_trans L2.out.grown (O.tch.grown (fun _ h => h.elim))))).mono ?_
                rintro e wz ⟨rfl, gz⟩
                replace O := O.call gz
                clear gz
                go_wp2_with (first | ((with_reducible refine @wpList_at _ _ _ _ _ _ _ (.load 40 (.tmp 13)) rfl ?_); refine wpList_load_part rfl 40 _ rfl b13 0 rfl zeroV.cells _ ((HB13.out.grown (O.tch.grown (fun _ h => h.elim)) (by simp)).row) Tryz.underlying40 rfl (sizeVote _ ZVote_length) ?_) | ((with_reducible refine @wpList_at _ _ _ _ _ _ _ (.build 40 #[]) rfl ?_); refine wpList_build_eq rfl 40 _ rfl [] (by kernel_rfl) ZVote bVote0 ?_) | ((with_reducible refine @wpList_at _ _ _ _ _ _ _ (.binOp .eql 40 (.tmp 227) (.tmp 228) 40) rfl ?_); refine wpList_eql_flat rfl 40 40 _ _ rfl zeroV.cells ZVote voteK rfl rfl vote_flat (VoteD.fits _ zeroV_wf) ZV_fits (by kernel_rfl) (by kernel_rfl) ?_; rw [zV_eq]))
                refine (CSV.out _ (O.tch.grown (fun _ h => h.elim))).mono ?_
                rintro e wy ⟨rfl, gy⟩
                replace O := O.call gy
                clear gy
                go_wp2_with fail
                go_ret
                exact ⟨rfl, Lib.grownBy_trans HGA.out (Lib.grownBy_trans L2.out.grown (O.tch.grown (fun _ h => h.elim)))⟩
            · have d2 : (X.round == a0.r) = false := beq_eq_false_iff_ne.2 e2
              rw [if_neg (fun h => e2 (HPL.out.1 h.1).2.1)] at hcs
              obtain ⟨hRX, hc0⟩ := hcs
              subst hc0
              rw [hRX] at HB13
              have HBE := Lib.hid (rfl : VEq (Lib.byteCells X.block) (Lib.byteCells a0.block) = _)
              clear e1 e2
              go_wp2_with (first | ((with_reducible refine @wpList_at _ _ _ _ _ _ _ (.load 40 (.tmp 177)) rfl ?_); refine wpList_load_part rfl 40 _ rfl g9 (o9 + m * 39) rfl X.cells _ (FR.out.grown (O.tch.grown (fun _ h => h.elim)) (by simp)) Tryz.underlying40 rfl (X.size HX.out) ?_) | ((with_reducible refine @wpList_at _ _ _ _ _ _ _ (.alloc 40) rfl ?_); refine @wpList_of_alloc _ _ _ _ _ _ _ _ _ _ 40 rfl ZVote ZVote_info O rfl ?_; clear O; intro b19 w O) | ((with_reducible refine @wpList_at _ _ _ _ _ _ _ (.store 40 (.tmp 19) (.tmp 178)) rfl ?_); refine @wpList_of_store _ _ _ _ _ _ _ _ _ _ 40 (.tmp 19) (.tmp 178) rfl O 0 b19 rfl X.cells ZVote _ rfl rfl (by rw [HXL.out]; rfl) (VoteD_one _) (sizeVote _ HXL.out) rfl ?_; clear O; intro w O; simp only [List.set_cons_zero] at O) | ((with_reducible refine @wpList_at _ _ _ _ _ _ _ (.load 3 (.tmp 179)) rfl ?_); refine @wpList_of_cell _ _ _ _ _ _ _ _ _ _ 3 (.tmp 179) rfl O 0 b19 1 rfl _ _ rfl (.int .i64 X.height) rfl _ Tryz.underlying3 rfl rfl ?_) | ((with_reducible refine @wpList_at _ _ _ _ _ _ _ (.load 3 (.tmp 181)) rfl ?_); refine wpList_load_one rfl 3 _ rfl b5 1 rfl (.int .i64 a0.h) _ (QH (Lib.grownBy_trans L2.out.grown (O.tch.grown (fun _ h => h.elim)))) Tryz.underlying3 rfl ?_) | ((with_reducible refine @wpList_at _ _ _ _ _ _ _ (.load 3 (.tmp 185)) rfl ?_); refine @wpList_of_cell _ _ _ _ _ _ _ _ _ _ 3 (.tmp 185) rfl O 0 b19 2 rfl _ _ rfl (.int .i64 X.round) rfl _ Tryz.underlying3 rfl rfl ?_) | ((with_reducible refine @wpList_at _ _ _ _ _ _ _ (.load 3 (.tmp 187)) rfl ?_); refine wpList_load_one rfl 3 _ rfl b5 2 rfl (.int .i64 a0.r) _ (QR (Lib.grownBy_trans L2.out.grown (O.tch.grown (fun _ h => h.elim)))) Tryz.underlying3 rfl ?_) | ((with_reducible refine @wpList_at _ _ _ _ _ _ _ (.load 24 (.tmp 192)) rfl ?_); refine @wpList_of_cell _ _ _ _ _ _ _ _ _ _ 24 (.tmp 192) rfl O 0 b19 3 rfl _ _ rfl (.int .i64 X.type) rfl _ Tryz.underlying24 rfl rfl ?_) | ((with_reducible refine @wpList_at _ _ _ _ _ _ _ (.load 24 (.tmp 194)) rfl ?_); refine wpList_load_one rfl 24 _ rfl b5 3 rfl (.int .i64 a0.t) _ (QT (Lib.grownBy_trans L2.out.grown (O.tch.grown (fun _ h => h.elim)))) Tryz.underlying24 rfl ?_) | ((with_reducible refine @wpList_at _ _ _ _ _ _ _ (.load 26 (.tmp 199)) rfl ?_); refine @wpList_of_part _ _ _ _ _ _ _ _ _ _ 26 (.tmp 199) rfl O 0 b19 4 rfl _ _ rfl (Lib.byteCells X.block) _ (fun h => (by have := (VoteD.At.of_row HX.out h).block; rwa [Nat.zero_add] at this)) Tryz.underlying26 rfl (sizeH _ (by rw [Lib.byteCells_length, HX.out.block])) rfl ?_) | ((with_reducible refine @wpList_at _ _ _ _ _ _ _ (.load 26 (.tmp 201)) rfl ?_); refine wpList_load_part rfl 26 _ rfl b5 4 rfl (Lib.byteCells a0.block) _ (QB (Lib.grownBy_trans L2.out.grown (O.tch.grown (fun _ h => h.elim)))) Tryz.underlying26 rfl (sizeH _ (by rw [Lib.byteCells_length, HA0.out.block])) ?_) | ((with_reducible refine @wpList_at _ _ _ _ _ _ _ (.binOp .eql 26 (.tmp 200) (.tmp 202) 26) rfl ?_); refine wpList_eql_flat rfl 26 26 _ _ rfl (Lib.byteCells X.block) (Lib.byteCells a0.block) kHash rfl rfl hash_flat (hash_fits _ HX.out.block) (hash_fits _ HA0.out.block) (by kernel_rfl) (by kernel_rfl) ?_; rw [HBE.out]))
              refine (CA.out _ (Lib.grownBy_trans HGA.out (Lib.grownBy_trans L2.out.grown (O.tch.grown (fun _ h => h.elim))))).mono ?_
              rintro e wz ⟨rfl, gz⟩
              replace O := O.call gz
              clear gz
              go_wp2_with (first | ((with_reducible refine @wpList_at _ _ _ _ _ _ _ (.load 40 (.tmp 13)) rfl ?_); refine wpList_load_part rfl 40 _ rfl b13 0 rfl zeroV.cells _ ((HB13.out.grown (O.tch.grown (fun _ h => h.elim)) (by simp)).row) Tryz.underlying40 rfl (sizeVote _ ZVote_length) ?_) | ((with_reducible refine @wpList_at _ _ _ _ _ _ _ (.build 40 #[]) rfl ?_); refine wpList_build_eq rfl 40 _ rfl [] (by kernel_rfl) ZVote bVote0 ?_) | ((with_reducible refine @wpList_at _ _ _ _ _ _ _ (.binOp .eql 40 (.tmp 227) (.tmp 228) 40) rfl ?_); refine wpList_eql_flat rfl 40 40 _ _ rfl zeroV.cells ZVote voteK rfl rfl vote_flat (VoteD.fits _ zeroV_wf) ZV_fits (by kernel_rfl) (by kernel_rfl) ?_; rw [zV_eq]))
              refine (CSV.out _ (O.tch.grown (fun _ h => h.elim))).mono ?_
              rintro e wy ⟨rfl, gy⟩
              replace O := O.call gy
              clear gy
              go_wp2_with fail
              go_ret
              exact ⟨rfl, Lib.grownBy_trans HGA.out (Lib.grownBy_trans L2.out.grown (O.tch.grown (fun _ h => h.elim)))⟩
          · have d1 : (X.height == a0.h) = false := beq_eq_false_iff_ne.2 e1
            rw [if_neg (fun h => e1 (HPL.out.1 h.1).1)] at hcs
            obtain ⟨hRX, hc0⟩ := hcs
            subst hc0
            rw [hRX] at HB13
            have HBE := Lib.hid (rfl : VEq (Lib.byteCells X.block) (Lib.byteCells a0.block) = _)
            clear e1
            go_wp2_with (first | ((with_reducible refine @wpList_at _ _ _ _ _ _ _ (.load 40 (.tmp 177)) rfl ?_); refine wpList_load_part rfl 40 _ rfl g9 (o9 + m * 39) rfl X.cells _ (FR.out.grown (O.tch.grown (fun _ h => h.elim)) (by simp)) Tryz.underlying40 rfl (X.size HX.out) ?_) | ((with_reducible refine @wpList_at _ _ _ _ _ _ _ (.alloc 40) rfl ?_); refine @wpList_of_alloc _ _ _ _ _ _ _ _ _ _ 40 rfl ZVote ZVote_info O rfl ?_; clear O; intro b19 w O) | ((with_reducible refine @wpList_at _ _ _ _ _ _ _ (.store 40 (.tmp 19) (.tmp 178)) rfl ?_); refine @wpList_of_store _ _ _ _ _ _ _ _ _ _ 40 (.tmp 19) (.tmp 178) rfl O 0 b19 rfl X.cells ZVote _ rfl rfl (by rw [HXL.out]; rfl) (VoteD_one _) (sizeVote _ HXL.out) rfl ?_; clear O; intro w O; simp only [List.set_cons_zero] at O) | ((with_reducible refine @wpList_at _ _ _ _ _ _ _ (.load 3 (.tmp 179)) rfl ?_); refine @wpList_of_cell _ _ _ _ _ _ _ _ _ _ 3 (.tmp 179) rfl O 0 b19 1 rfl _ _ rfl (.int .i64 X.height) rfl _ Tryz.underlying3 rfl rfl ?_) | ((with_reducible refine @wpList_at _ _ _ _ _ _ _ (.load 3 (.tmp 181)) rfl ?_); refine wpList_load_one rfl 3 _ rfl b5 1 rfl (.int .i64 a0.h) _ (QH (Lib.grownBy_trans L2.out.grown (O.tch.grown (fun _ h => h.elim)))) Tryz.underlying3 rfl ?_) | ((with_reducible refine @wpList_at _ _ _ _ _ _ _ (.load 3 (.tmp 185)) rfl ?_); refine @wpList_of_cell _ _ _ _ _ _ _ _ _ _ 3 (.tmp 185) rfl O 0 b19 2 rfl _ _ rfl (.int .i64 X.round) rfl _ Tryz.underlying3 rfl rfl ?_) | ((with_reducible refine @wpList_at _ _ _ _ _ _ _ (.load 3 (.tmp 187)) rfl ?_); refine wpList_load_one rfl 3 _ rfl b5 2 rfl (.int .i64 a0.r) _ (QR (Lib.grownBy_trans L2.out.grown (O.tch.grown (fun _ h => h.elim)))) Tryz.underlying3 rfl ?_) | ((with_reducible refine @wpList_at _ _ _ _ _ _ _ (.load 24 (.tmp 192)) rfl ?_); refine @wpList_of_cell _ _ _ _ _ _ _ _ _ _ 24 (.tmp 192) rfl O 0 b19 3 rfl _ _ rfl (.int .i64 X.type) rfl _ Tryz.underlying24 rfl rfl ?_) | ((with_reducible refine @wpList_at _ _ _ _ _ _ _ (.load 24 (.tmp 194)) rfl ?_); refine wpList_load_one rfl 24 _ rfl b5 3 rfl (.int .i64 a0.t) _ (QT (Lib.grownBy_trans L2.out.grown (O.tch.grown (fun _ h => h.elim)))) Tryz.underlying24 rfl ?_) | ((with_reducible refine @wpList_at _ _ _ _ _ _ _ (.load 26 (.tmp 199)) rfl ?_); refine @wpList_of_part _ _ _ _ _ _ _ _ _ _ 26 (.tmp 199) rfl O 0 b19 4 rfl _ _ rfl (Lib.byteCells X.block) _ (fun h => (by have := (VoteD.At.of_row HX.out h).block; rwa [Nat.zero_add] at this)) Tryz.underlying26 rfl (sizeH _ (by rw [Lib.byteCells_length, HX.out.block])) rfl ?_) | ((with_reducible refine @wpList_at _ _ _ _ _ _ _ (.load 26 (.tmp 201)) rfl ?_); refine wpList_load_part rfl 26 _ rfl b5 4 rfl (Lib.byteCells a0.block) _ (QB (Lib.grownBy_trans L2.out.grown (O.tch.grown (fun _ h => h.elim)))) Tryz.underlying26 rfl (sizeH _ (by rw [Lib.byteCells_length, HA0.out.block])) ?_) | ((with_reducible refine @wpList_at _ _ _ _ _ _ _ (.binOp .eql 26 (.tmp 200) (.tmp 202) 26) rfl ?_); refine wpList_eql_flat rfl 26 26 _ _ rfl (Lib.byteCells X.block) (Lib.byteCells a0.block) kHash rfl rfl hash_flat (hash_fits _ HX.out.block) (hash_fits _ HA0.out.block) (by kernel_rfl) (by kernel_rfl) ?_; rw [HBE.out]))
            refine (CA.out _ (Lib.grownBy_trans HGA.out (Lib.grownBy_trans L2.out.grown (O.tch.grown (fun _ h => h.elim))))).mono ?_
            rintro e wz ⟨rfl, gz⟩
            replace O := O.call gz
            clear gz
            go_wp2_with (first | ((with_reducible refine @wpList_at _ _ _ _ _ _ _ (.load 40 (.tmp 13)) rfl ?_); refine wpList_load_part rfl 40 _ rfl b13 0 rfl zeroV.cells _ ((HB13.out.grown (O.tch.grown (fun _ h => h.elim)) (by simp)).row) Tryz.underlying40 rfl (sizeVote _ ZVote_length) ?_) | ((with_reducible refine @wpList_at _ _ _ _ _ _ _ (.build 40 #[]) rfl ?_); refine wpList_build_eq rfl 40 _ rfl [] (by kernel_rfl) ZVote bVote0 ?_) | ((with_reducible refine @wpList_at _ _ _ _ _ _ _ (.binOp .eql 40 (.tmp 227) (.tmp 228) 40) rfl ?_); refine wpList_eql_flat rfl 40 40 _ _ rfl zeroV.cells ZVote voteK rfl rfl vote_flat (VoteD.fits _ zeroV_wf) ZV_fits (by kernel_rfl) (by kernel_rfl) ?_; rw [zV_eq]))
            refine (CSV.out _ (O.tch.grown (fun _ h => h.elim))).mono ?_
            rintro e wy ⟨rfl, gy⟩
            replace O := O.call gy
            clear gy
            go_wp2_with fail
            go_ret
            exact ⟨rfl, Lib.grownBy_trans HGA.out (Lib.grownBy_trans L2.out.grown (O.tch.grown (fun _ h => h.elim)))⟩

end Go.Proofs.YtcbkehnlgpcelaaGreatDoor
