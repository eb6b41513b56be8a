/- The walk of nunciolaw06.FormSigns: for every two votes it answers true. -/
import Derived.Test.YtaffpgafbjhahaaDoorAlive6
import Derived.Test.YtaffpgafbjhahaaDoorPlain6
import Derived.Test.YtaffpgafbjhahaaDoorLaw
import Derived.Deep.Cut
import Derived.Deep.CutRange
namespace Go.Proofs.YtaffpgafbjhahaaDoor
open Go.RowKit
set_option maxRecDepth 100000

theorem OwnB.below {B : Nat} {v : Value} {l : List UInt8} {w w' : World} (h : OwnB B v l w) (hb : Below w.heap.size w w') : OwnB B v l w' := by
  obtain ⟨h1, h2⟩ := h
  refine ⟨h1, ?_⟩
  rcases h2 with h2 | ⟨g, cap, cur, hv, hg, hh, r⟩
  · exact Or.inl h2
  · exact Or.inr ⟨g, cap, cur, hv, hg, (hb.block g (Lib.lt_of_heap hh)).trans hh, r⟩
theorem OwnB.len {B : Nat} {a : Option Addr} {n c : Nat} {l : List UInt8} {w : World} (h : OwnB B (.slice a n c) l w) : n = l.length := by
  obtain ⟨h1, ⟨e, h0⟩ | ⟨g, cap, cur, hv, _⟩⟩ := h
  · injection e with _ e _; omega
  · injection hv

/-- the block in which bytes lie -/
theorem RdB.at_row {w w' : World} {v : Value} {l : List UInt8} {m : Nat} (h : RdB w v l) (hg : w.grownBy w' (some m)) (hne : ∀ g o n c, v = .slice (some ⟨g, o, none⟩) n c → g ≠ m) : RdB w' v l := by
  obtain ⟨ao, c, e, h1, h2, h3⟩ := h
  refine ⟨ao, c, e, h1, h2, ?_⟩
  rcases h3 with h3 | ⟨g, o, rfl, h4, h5⟩
  · exact Or.inl h3
  · exact Or.inr ⟨g, o, rfl, Nat.lt_of_lt_of_le h4 hg.size, h5.grown hg (by simp; exact hne g o _ _ e)⟩
theorem OwnB.block_ne {B m : Nat} {v : Value} {l : List UInt8} {w : World} (h : OwnB B v l w) (hm : m < B) : ∀ g o n c, v = .slice (some ⟨g, o, none⟩) n c → g ≠ m := by
  intro g o n c e
  obtain ⟨_, ⟨e2, _⟩ | ⟨g2, cap, cur, e2, hg, _⟩⟩ := h
  · rw [e] at e2; cases e2
  · rw [e] at e2
    injection e2 with e2
    injection e2 with e2
    injection e2 with e2
    omega


theorem below_of_grown {w w' : World} {row : Option Nat} (h : w.grownBy w' row) (hr : ∀ k, row = some k → w.heap.size ≤ k) : Below w.heap.size w w' :=
  ⟨h.os, h.tape, h.output, h.size, fun k hk => h.block k hk (fun e => by have := hr k e.symm; omega)⟩

/-- the vote with another one's key and signature -/
def VoteD.as (v u : VoteD) : VoteD := { v with key := u.key, r := u.r, s := u.s }
theorem VoteD.as_wf {v u : VoteD} (hv : v.wf) (hu : u.wf) : (v.as u).wf := ⟨hv.chain, hv.height, hv.round, hv.type, hv.block, hu.key, hu.r, hu.s⟩
theorem as_world {v u : VoteD} {w : World} {m : Nat} (hv : v.wf) (hb : Blk w m v.cells 29) :
    ∃ W3, ((w.setCell ⟨m, 36, none⟩ (.int .u64 u.key)).setCell ⟨m, 37, none⟩ (.int .u64 u.r)).setCell ⟨m, 38, none⟩ (.int .u64 u.s) = W3 ∧ RowAt W3 m 0 (v.as u).cells ∧ w.grownBy W3 (some m) := by
  have hl := v.cells_length hv
  have h1 := ((hb.row.set 36 (by omega) (.int .u64 u.key)).set 37 (by simp; omega) (.int .u64 u.r)).set 38 (by simp; omega) (.int .u64 u.s)
  simp only [Nat.zero_add] at h1
  refine ⟨_, rfl, ?_, Lib.grownBy_setB (Lib.grownBy_setB (Lib.grownBy_setCell w m 36 _) 37 _) 38 _⟩
  have e : ((v.cells.set 36 (.int .u64 u.key)).set 37 (.int .u64 u.r)).set 38 (.int .u64 u.s) = (v.as u).cells := by
    unfold VoteD.cells VoteD.as
    generalize hp : [Value.string v.chain, .int .i64 v.height, .int .i64 v.round, .int .i64 v.type] ++ Lib.byteCells v.block = p
    have hlen : p.length = 36 := by rw [← hp]; simp [Lib.byteCells_length, hv.block]
    rw [List.set_append_right _ _ (by omega), List.set_append_right _ _ (by omega), List.set_append_right _ _ (by omega), hlen]
    rfl
  rwa [e] at h1

set_option maxHeartbeats 2000000 in
theorem FormSigns_any (v u : VoteD) (w : World) (hv : v.wf) (hu : u.wf) : Calls Tryd.prog 3 #[v.val, u.val] w (LawTrue w) := by
  have Hv := Lib.hid hv; have Hu := Lib.hid hu
  unfold VoteD.val
  clear hv hu
  go_enter Tryd.func3, Tryd.ntmps3
  go_wp2_with (refine wpList_box_as rfl 29 _ rfl v.cells rfl ?_)
  intro W1 p1 g1 s1
  have P1 := Lib.hid p1; have G1 := Lib.hid g1; clear p1 g1
  go_wp2_with (refine wpList_box_as rfl 29 _ rfl u.cells rfl ?_)
  intro W2 p2 g2 s2
  have P2 := Lib.hid p2; have G2 := Lib.hid g2; have S1 := Lib.hid s1; have S2 := Lib.hid s2; clear p2 g2 s1 s2
  have Q1 := Lib.hid (P1.out.grown G2.out (by simp))
  have Bel := Lib.hid (below_of_grown (Lib.grownBy_trans G1.out G2.out) (by simp))
  go_wp2_with (refine wpList_load_part rfl 29 _ rfl w.heap.size 0 rfl v.cells _ Q1.out.row Tryd.underlying29 rfl (v.size Hv.out) ?_)
  cases e1 : okVote v with
  | false =>
    refine (SignBytes_no v W2 Hv.out e1).mono ?_
    rintro e w3 ⟨rfl, k2⟩
    have P3 := Lib.hid (P2.out.below k2 P2.out.lt)
    replace Bel := Lib.hid (Bel.out.trans (k2.mono Bel.out.size))
    clear e1 k2
    go_wp2_with (refine wpList_load_part rfl 29 _ rfl (w.heap.size + 1) 0 rfl u.cells _ P3.out.row Tryd.underlying29 rfl (u.size Hu.out) ?_)
    cases e2 : okVote u with
    | false =>
      refine (SignBytes_no u w3 Hu.out e2).mono ?_
      rintro e w4 ⟨rfl, k2⟩
      replace Bel := Lib.hid (Bel.out.trans (k2.mono Bel.out.size))
      clear e2 k2
      go_wp2_with (go_at_call 12; refine (alive_any _).mono ?_; rintro e w5 ⟨rfl, hb⟩)
      go_ret
      exact ⟨rfl, Bel.out.trans (hb.mono Bel.out.size)⟩
    | true =>
      refine (SignBytes_yes u w3 Hu.out e2).mono ?_
      rintro e w4 ⟨a, n, c, rfl, k1, k2⟩
      replace Bel := Lib.hid (Bel.out.trans (k2.mono Bel.out.size))
      clear e2 k1 k2
      go_wp2_with (go_at_call 12; refine (alive_any _).mono ?_; rintro e w5 ⟨rfl, hb⟩)
      go_ret
      exact ⟨rfl, Bel.out.trans (hb.mono Bel.out.size)⟩
  | true =>
    refine (SignBytes_yes v W2 Hv.out e1).mono ?_
    rintro e w3 ⟨a, n, c, rfl, k1, k2⟩
    have P3 := Lib.hid (P2.out.below k2 P2.out.lt)
    have Q3 := Lib.hid (Q1.out.below k2 Q1.out.lt)
    replace Bel := Lib.hid (Bel.out.trans (k2.mono Bel.out.size))
    have K1 := Lib.hid k1; have E1 := Lib.hid e1
    clear e1 k1 k2
    go_wp2_with (refine wpList_load_part rfl 29 _ rfl (w.heap.size + 1) 0 rfl u.cells _ P3.out.row Tryd.underlying29 rfl (u.size Hu.out) ?_)
    cases e2 : okVote u with
    | false =>
      refine (SignBytes_no u w3 Hu.out e2).mono ?_
      rintro e w4 ⟨rfl, k2⟩
      replace Bel := Lib.hid (Bel.out.trans (k2.mono Bel.out.size))
      clear e2 k2
      go_wp2_with (go_at_call 12; refine (alive_any _).mono ?_; rintro e w5 ⟨rfl, hb⟩)
      go_ret
      exact ⟨rfl, Bel.out.trans (hb.mono Bel.out.size)⟩
    | true =>
      refine (SignBytes_yes u w3 Hu.out e2).mono ?_
      rintro e w4 ⟨a2, n2, c2, rfl, k1, k2⟩
      have P4 := Lib.hid (P3.out.below k2 P3.out.lt)
      have Q4 := Lib.hid (Q3.out.below k2 Q3.out.lt)
      have K1' := Lib.hid (K1.out.below k2)
      replace Bel := Lib.hid (Bel.out.trans (k2.mono Bel.out.size))
      have K2 := Lib.hid k1; have E2 := Lib.hid e2
      clear e2 k1 k2
      have A4 := VoteD.At.of_row Hv.out Q4.out.row
      have U4 := VoteD.At.of_row Hu.out P4.out.row
      have c36 := A4.key; have c37 := A4.r; have c38 := A4.s
      have u36 := U4.key; have u37 := U4.r; have u38 := U4.s
      have f36 := Q4.out.frozen 36; have f37 := Q4.out.frozen 37; have f38 := Q4.out.frozen 38
      simp only [Nat.zero_add] at c36 c37 c38 u36 u37 u38
      clear A4 U4
      go_upto_region 7 with (fail)
      obtain ⟨W5, hW5, r5, g5⟩ := as_world (u := u) Hv.out Q4.out
      rw [hW5]
      have P5 := Lib.hid (P4.out.grown g5 (by simp))
      have s2 : w.heap.size + 2 ≤ W2.heap.size := by rw [S2.out]; omega
      have o1 := ((OwnB.rd K1'.out).at_row g5 (K1'.out.block_ne (by omega)))
      have o2 := ((OwnB.rd K2.out).at_row g5 (K2.out.block_ne (by have := Q3.out.lt; omega)))
      have R5 := Lib.hid r5
      have Bel5 := Lib.hid (Bel.out.trans ⟨g5.os, g5.tape, g5.output, g5.size, fun k hk => g5.block k (by have := Bel.out.size; omega) (by simp; omega)⟩)
      clear c36 c37 c38 u36 u37 u38 f36 f37 f38 hW5 r5 g5 s2
      go_wp2_with fail
      refine (Same_any _ _ _ _ W5 o1 o2).mono ?_
      rintro e w' ⟨rfl, rfl⟩
      clear o1 o2
      go_wp2_with fail
      refine (alive_any W5).mono ?_
      rintro e w6 ⟨rfl, hb⟩
      have R6 := Lib.hid (R5.out.below hb (by have := P5.out.lt; omega))
      have P6 := Lib.hid (P5.out.below hb P5.out.lt)
      have hlaw := signs_law v u Hv.out Hu.out E1.out E2.out
      have Hlaw : Hid (((encVote v.bare == encVote u.bare) == VEq (v.as u).cells u.cells) = true) := hlaw
      replace Bel5 := Lib.hid (Bel5.out.trans (hb.mono Bel5.out.size))
      clear hb hlaw
      go_wp2_with (first
        | (refine wpList_load_part rfl 29 _ rfl w.heap.size 0 rfl (v.as u).cells _ R6.out Tryd.underlying29 rfl ((v.as u).size (VoteD.as_wf Hv.out Hu.out)) ?_)
        | (refine wpList_load_part rfl 29 _ rfl (w.heap.size + 1) 0 rfl u.cells _ P6.out.row Tryd.underlying29 rfl (u.size Hu.out) ?_)
        | (refine wpList_eql_flat rfl 29 _ _ _ rfl (v.as u).cells u.cells voteK rfl rfl vote_flat ((v.as u).fits (VoteD.as_wf Hv.out Hu.out)) (u.fits Hu.out) rfl (by kernel_rfl) ?_))
      go_ret
      exact ⟨by rw [← Hlaw.out]; rfl, Bel5.out⟩

end Go.Proofs.YtaffpgafbjhahaaDoor
