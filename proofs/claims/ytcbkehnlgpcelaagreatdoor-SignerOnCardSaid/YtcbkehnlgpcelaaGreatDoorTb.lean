/- Walks: tally.power, Two, One; nuncioref09.Two, One; Signed, of both. Walks: nuncioref09.Signed; Sign, of both. -/
import Derived.Test.YtcbkehnlgpcelaaGreatDoorSchR
import Derived.Test.YtcbkehnlgpcelaaGreatDoorPlain6
import Derived.Test.YtcbkehnlgpcelaaGreatDoorRJoin
namespace Go.Proofs.YtcbkehnlgpcelaaGreatDoor
open Go.RowKit
set_option maxRecDepth 100000

def powB (n : Int) : Bool := decide (0 ≤ n) && decide (n ≤ 1125899906842624)
def twoB (p t : Int) : Bool := powB p && (powB t && decide (2 * t < 3 * p))
def oneB (p t : Int) : Bool := powB p && (powB t && decide (t < 3 * p))
theorem powB_true {n : Int} (h : powB n = true) : 0 ≤ n ∧ n ≤ 1125899906842624 := by simpa [powB] using h

def signedB (v : VoteD) : Bool := okVote v && vfyL v.key.toNat (encVote v.bare) v.r.toNat v.s.toNat
theorem u64_nat {n : Int} (h : u64R n) : n = ((n.toNat : Nat) : Int) ∧ n.toNat < 18446744073709551616 := by unfold u64R at h; omega
theorem bare_len (v : VoteD) (h : okVote v = true) (hv : v.wf) : (encVote v.bare).length ≤ 1000 := by
  have := okVote_len h
  have hb := hv.block
  simp [encVote, VoteD.bare, textL, be64_length, be16, be_length, hb]
  omega
theorem vote_sig (v : VoteD) (hv : v.wf) : (v.cells.drop 37).take 2 = sigC v.r.toNat v.s.toNat := by
  have h1 := (u64_nat hv.r).1; have h2 := (u64_nat hv.s).1
  unfold sigC
  rw [← h1, ← h2]
  have e : v.cells = ([.string v.chain, .int .i64 v.height, .int .i64 v.round, .int .i64 v.type] ++ Lib.byteCells v.block ++ [.int .u64 v.key]) ++ [.int .u64 v.r, .int .u64 v.s] := by simp [VoteD.cells]
  rw [e, List.drop_append_of_le_length (by simp [Lib.byteCells_length, hv.block]), List.drop_of_length_le (by simp [Lib.byteCells_length, hv.block])]
  rfl
theorem vote_key (v : VoteD) (hv : v.wf) : v.cells[36]? = some (.int .u64 (v.key.toNat : Int)) := by
  rw [← (u64_nat hv.key).1]
  have e : v.cells = ([.string v.chain, .int .i64 v.height, .int .i64 v.round, .int .i64 v.type] ++ Lib.byteCells v.block) ++ [.int .u64 v.key, .int .u64 v.r, .int .u64 v.s] := by simp [VoteD.cells]
  rw [e, List.getElem?_append_right (by simp [Lib.byteCells_length, hv.block])]
  simp [Lib.byteCells_length, hv.block]
theorem part_of {w : World} {g k n : Nat} {cs vs : List Value} (h : RowAt w g 0 cs) (e : (cs.drop k).take n = vs) : RowAt w g k vs := by
  have := h.part k n
  rw [e, Nat.zero_add] at this
  exact this

set_option maxHeartbeats 2000000 in
theorem Signed_ok (v : VoteD) (w : World) (hv : v.wf) (hR : RowAt w 3 0 (wCells rootsL)) :
    Calls Tryz.prog 66 #[.agg v.cells.toArray] w fun e w' => e = .returned (.bool (signedB v)) ∧ w.grownBy w' none := by
  have Hv := Lib.hid hv; have HR := Lib.hid hR
  clear hv hR
  go_enter Tryz.func66, Tryz.ntmps66
  go_wp2_with (first | (refine wpList_box_as rfl 40 _ rfl v.cells rfl ?_))
  intro w1 b1 g1 s1
  obtain ⟨b, hb⟩ : ∃ b, w.heap.size = b := ⟨_, rfl⟩
  rw [hb] at b1 ⊢
  have B1 := Lib.hid b1; have G1 := Lib.hid g1
  clear b1 g1 s1 hb
  go_wp2_with (refine wpList_load_part rfl 40 _ rfl b 0 rfl v.cells _ B1.out.row Tryz.underlying40 rfl (v.size Hv.out) ?_)
  cases h : okVote v with
  | false =>
    have S := SignBytes_no v w1 Hv.out h
    have E := Lib.hid (show signedB v = false by unfold signedB; rw [h]; rfl)
    have HS := Lib.hid S
    clear S h
    refine HS.out.mono ?_
    rintro e w2 ⟨rfl, g2⟩
    have G2 := Lib.hid (Lib.grownBy_trans G1.out (below_grown g2))
    clear g2
    go_wp2_with fail
    go_ret
    rw [E.out]
    exact ⟨rfl, G2.out⟩
  | true =>
    obtain ⟨kn, hkn⟩ : ∃ n, v.key.toNat = n := ⟨_, rfl⟩
    obtain ⟨rn, hrn⟩ : ∃ n, v.r.toNat = n := ⟨_, rfl⟩
    obtain ⟨sn, hsn⟩ : ∃ n, v.s.toNat = n := ⟨_, rfl⟩
    have L1 := Lib.hid (hkn ▸ (u64_nat Hv.out.key).2); have L2 := Lib.hid (hrn ▸ (u64_nat Hv.out.r).2); have L3 := Lib.hid (hsn ▸ (u64_nat Hv.out.s).2)
    have VK := Lib.hid (vote_key v Hv.out); have VS := Lib.hid (vote_sig v Hv.out)
    rw [hkn] at VK; rw [hrn, hsn] at VS
    have S := SignBytes_yes v w1 Hv.out h
    obtain ⟨m, hm⟩ : ∃ m, encVote v.bare = m := ⟨_, rfl⟩
    have E := Lib.hid (show signedB v = vfyL kn m rn sn by unfold signedB; rw [h, hkn, hrn, hsn, hm]; rfl)
    have HL := Lib.hid (bare_len v h Hv.out)
    rw [hm] at HL S
    have HS := Lib.hid S
    clear S h hkn hrn hsn hm
    refine HS.out.mono ?_
    rintro e w2 ⟨a, n, c, rfl, o2, g2⟩
    have R2 := Lib.hid o2.rd; have B2 := Lib.hid (B1.out.grown (below_grown g2) (by simp)); have G2 := Lib.hid (Lib.grownBy_trans G1.out (below_grown g2))
    have q1 : w2.cell? ⟨b, 36, none⟩ = some (.int .u64 (kn : Int)) := by have := B2.out.row 36 _ VK.out; rwa [Nat.zero_add] at this
    have r1 := Lib.hid (part_of (k := 37) (n := 2) B2.out.row VS.out)
    clear o2 g2 B1 G1
    go_wp2_with (refine wpList_load_part rfl 38 _ rfl b 37 rfl (sigC rn sn) _ r1.out Tryz.underlying38 rfl (sizeSigN _ _) ?_)
    refine (Verify_ok kn rn sn m _ w2 L1.out L2.out L3.out R2.out (by have := HL.out; omega) (HR.out.grown G2.out (by simp))).mono ?_
    rintro e w3 ⟨rfl, g3⟩
    rw [← E.out]
    have G3 := Lib.hid (Lib.grownBy_trans G2.out g3)
    clear g3 q1
    go_wp2_with fail
    go_ret
    exact ⟨rfl, G3.out⟩

set_option maxHeartbeats 2000000 in
theorem RSigned_ok (v : VoteD) (w : World) (hv : v.wf) (hc : v.chain.size ≤ 140737488351232) :
    Calls Tryz.prog 50 #[.agg v.cells.toArray] w fun e w' => e = .returned (.bool (signedB v)) ∧ w.grownBy w' none := by
  have Hv := Lib.hid hv; have Hc := Lib.hid hc
  clear hv hc
  go_enter Tryz.func50, Tryz.ntmps50
  go_wp2_with (first | (refine wpList_box_as rfl 40 _ rfl v.cells rfl ?_))
  intro w1 b1 g1 s1
  obtain ⟨b, hb⟩ : ∃ b, w.heap.size = b := ⟨_, rfl⟩
  rw [hb] at b1 ⊢
  have B1 := Lib.hid b1; have G1 := Lib.hid g1
  clear b1 g1 s1 hb
  go_wp2_with (refine wpList_load_part rfl 40 _ rfl b 0 rfl v.cells _ B1.out.row Tryz.underlying40 rfl (v.size Hv.out) ?_)
  have S := RSign v w1 Hv.out Hc.out
  cases h : okVote v with
  | false =>
    rw [h] at S
    have E := Lib.hid (show signedB v = false by unfold signedB; rw [h]; rfl)
    have HS := Lib.hid S
    clear S h
    refine HS.out.mono ?_
    rintro e w2 ⟨a, n, c, rfl, o2, g2⟩
    have G2 := Lib.hid (Lib.grownBy_trans G1.out (below_grown g2))
    clear o2 g2
    go_wp2_with fail
    go_ret
    rw [E.out]
    exact ⟨rfl, G2.out⟩
  | true =>
    obtain ⟨kn, hkn⟩ : ∃ n, v.key.toNat = n := ⟨_, rfl⟩
    obtain ⟨rn, hrn⟩ : ∃ n, v.r.toNat = n := ⟨_, rfl⟩
    obtain ⟨sn, hsn⟩ : ∃ n, v.s.toNat = n := ⟨_, rfl⟩
    have L1 := Lib.hid (hkn ▸ (u64_nat Hv.out.key).2); have L2 := Lib.hid (hrn ▸ (u64_nat Hv.out.r).2); have L3 := Lib.hid (hsn ▸ (u64_nat Hv.out.s).2)
    have VK := Lib.hid (vote_key v Hv.out); have VS := Lib.hid (vote_sig v Hv.out)
    rw [hkn] at VK; rw [hrn, hsn] at VS
    obtain ⟨m, hm⟩ : ∃ m, encVote v.bare = m := ⟨_, rfl⟩
    have E := Lib.hid (show signedB v = vfyL kn m rn sn by unfold signedB; rw [h, hkn, hrn, hsn, hm]; rfl)
    have HL := Lib.hid (bare_len v h Hv.out)
    rw [h, hm] at S
    rw [hm] at HL
    have HS := Lib.hid S
    clear S h hkn hrn hsn hm
    refine HS.out.mono ?_
    rintro e w2 ⟨a, n, c, rfl, o2, g2⟩
    have R2 := Lib.hid o2.rd; have B2 := Lib.hid (B1.out.grown (below_grown g2) (by simp)); have G2 := Lib.hid (Lib.grownBy_trans G1.out (below_grown g2))
    have q1 : w2.cell? ⟨b, 36, none⟩ = some (.int .u64 (kn : Int)) := by have := B2.out.row 36 _ VK.out; rwa [Nat.zero_add] at this
    have r1 := Lib.hid (part_of (k := 37) (n := 2) B2.out.row VS.out)
    clear o2 g2 B1 G1
    go_wp2_with (refine wpList_load_part rfl 38 _ rfl b 37 rfl (sigC rn sn) _ r1.out Tryz.underlying38 rfl (sizeSigN _ _) ?_)
    refine (RVerify_ok kn rn sn m _ w2 L1.out L2.out L3.out R2.out (by have := HL.out; omega)).mono ?_
    rintro e w3 ⟨rfl, g3⟩
    rw [← E.out]
    have G3 := Lib.hid (Lib.grownBy_trans G2.out g3)
    clear g3 q1
    go_wp2_with fail
    go_ret
    exact ⟨rfl, G3.out⟩

def zeroV : VoteD := ⟨⟨#[]⟩, 0, 0, 0, List.replicate 32 0, 0, 0, 0⟩
theorem zeroV_cells : zeroV.cells = ZVote := rfl
def VoteD.by (v : VoteD) (k r s : Nat) : VoteD := { v with key := k, r := r, s := s }
def signL (x : Nat) (v : VoteD) : VoteD × Int :=
  if okVote v then (if keyOk x then (v.by (pw 37 x) (sgR x (encVote v.bare)) (sgS x (encVote v.bare)), 0) else (zeroV, 41)) else (zeroV, 61)
theorem by_cells (v : VoteD) (h : v.wf) (k r s : Nat) : (v.cells.set 36 (Value.int .u64 (k : Int))).take 37 ++ sigC r s ++ (v.cells.set 36 (Value.int .u64 (k : Int))).drop (37 + 2) = (v.by k r s).cells := by
  unfold VoteD.cells VoteD.by sigC
  generalize hp : [Value.string v.chain, .int .i64 v.height, .int .i64 v.round, .int .i64 v.type] ++ Lib.byteCells v.block = p
  have hlen : p.length = 36 := by rw [← hp]; simp [Lib.byteCells_length, h.block]
  rw [List.set_append_right _ _ (by omega), hlen]
  show (p ++ ([.int .u64 k, .int .u64 v.r, .int .u64 v.s] : List Value)).take 37 ++ ([.int .u64 r, .int .u64 s] : List Value) ++ (p ++ ([.int .u64 k, .int .u64 v.r, .int .u64 v.s] : List Value)).drop 39 = _
  rw [List.take_append, List.take_of_length_le (by omega), hlen, List.drop_eq_nil_of_le (by simp [hlen])]
  simp
theorem bVote0 : Tryz.prog.built 40 [] = some ZVote.toArray := by kernel_rfl
theorem by_length (v : VoteD) (h : v.wf) (k r s : Nat) : (v.by k r s).cells.length = 39 := by simp [VoteD.cells, VoteD.by, Lib.byteCells_length, h.block]
theorem sgS_u64 (x : Nat) (m : List UInt8) : sgS x m < 18446744073709551616 := by
  have : sgS x m < pQ := Nat.mod_lt _ (by decide)
  unfold pQ at this; omega
theorem by_wf (v : VoteD) (h : v.wf) (k r s : Nat) (hk : k < 18446744073709551616) (hr : r < 18446744073709551616) (hs : s < 18446744073709551616) : (v.by k r s).wf := by
  obtain ⟨a1, a2, a3, a4, a5, a6, a7, a8⟩ := h
  exact ⟨a1, a2, a3, a4, a5, by simp only [VoteD.by, u64R]; omega, by simp only [VoteD.by, u64R]; omega, by simp only [VoteD.by, u64R]; omega⟩
theorem zeroV_wf : zeroV.wf := ⟨by decide, by unfold i64R; decide, by unfold i64R; decide, by unfold i64R; decide, by decide, by unfold u64R; decide, by unfold u64R; decide, by unfold u64R; decide⟩
theorem OwnB.other {B b : Nat} {v : Value} {l : List UInt8} {w w' : World} (h : OwnB B v l w) (hg : w.grownBy w' (some b)) (hb : b < B) : OwnB B v l w' := by
  refine World.ownsRow.kept h hg ?_
  rcases h.2 with ⟨rfl, _⟩ | ⟨g, cap, cur, rfl, hB, _⟩
  · exact .inl rfl
  · refine .inr ?_
    simp [Value.ownBlock]; omega

set_option maxHeartbeats 2000000 in
theorem TSign_ok (x : Nat) (v : VoteD) (w : World) (hx : x < 18446744073709551616) (hv : v.wf) (hR : RowAt w 3 0 (wCells rootsL)) :
    Calls Tryz.prog 36 #[.int .u64 (x : Int), .agg v.cells.toArray] w fun e w' => e = .returned (.tuple #[.agg (signL x v).1.cells.toArray, .int .i64 (signL x v).2]) ∧ w.grownBy w' none := by
  have Hv := Lib.hid hv; have HR := Lib.hid hR; have Hx := Lib.hid hx
  have hcl := Lib.hid (v.cells_length hv)
  clear hv hR hx
  go_enter Tryz.func36, Tryz.ntmps36
  go_wp2_with (first | (refine wpList_box_as rfl 40 _ rfl v.cells rfl ?_))
  intro w1 b1 g1 s1
  obtain ⟨b, hb⟩ : ∃ b, w.heap.size = b := ⟨_, rfl⟩
  rw [hb] at b1 ⊢
  have B1 := Lib.hid b1; have G1 := Lib.hid g1; have S1 := Lib.hid s1
  have HB := Lib.hid hb
  clear b1 g1 s1 hb
  go_wp2_with (refine wpList_alloc_as rfl 40 rfl ZVote ZVote_info ?_)
  intro w2 b2 g2 s2
  obtain ⟨c, hc⟩ : ∃ c, w1.heap.size = c := ⟨_, rfl⟩
  rw [hc] at b2 ⊢
  have hbc : w.heap.size ≤ c ∧ b ≠ c := by have := S1.out; have := HB.out; omega
  have HC := Lib.hid hbc
  have B2 := Lib.hid (B1.out.grown g2 (by simp)); have C2 := Lib.hid b2; have G2 := Lib.hid (Lib.grownBy_trans G1.out g2)
  clear b2 g2 s2 hc hbc B1 G1 S1
  go_wp2_with (refine wpList_load_part rfl 40 _ rfl b 0 rfl v.cells _ B2.out.row Tryz.underlying40 rfl (v.size Hv.out) ?_)
  cases h : okVote v with
  | false =>
    have S := SignBytes_no v w2 Hv.out h
    have E := Lib.hid (show signL x v = (zeroV, 61) by unfold signL; rw [h]; rfl)
    have HS := Lib.hid S
    clear S h
    refine HS.out.mono ?_
    rintro e w3 ⟨rfl, g3⟩
    have C3 := Lib.hid (C2.out.grown (below_grown g3) (by simp)); have G3 := Lib.hid (Lib.grownBy_trans G2.out (below_grown g3))
    clear g3 B2 C2 G2
    go_wp2_with (first | (refine wpList_build_eq rfl 40 _ rfl [] (by kernel_rfl) ZVote bVote0 ?_) | (refine wpList_store_whole rfl 40 _ _ rfl c rfl ZVote ZVote 40 rfl C3.out rfl ZVote_one (sizeVote _ ZVote_length) ?_))
    intro w4 g4 s4 b4
    have C4 := Lib.hid b4; have G4 := Lib.hid (grown_new G3.out g4 HC.out.1)
    clear b4 g4 s4
    go_wp2_with fail
    rw [E.out]
    refine bodyPost_ret (results_cell_tmp rfl _ _ ⟨c, 0, none⟩ _ _ rfl rfl (run_loadVar_part _ _ _ 40 ZVote _ C4.out.row Tryz.underlying40 rfl (sizeVote _ ZVote_length))) rfl ?_
    exact ⟨rfl, G4.out⟩
  | true =>
    have S := SignBytes_yes v w2 Hv.out h
    have HL := Lib.hid (bare_len v h Hv.out)
    obtain ⟨m, hm⟩ : ∃ m, encVote v.bare = m := ⟨_, rfl⟩
    rw [hm] at HL S
    have HS := Lib.hid S
    clear S
    refine HS.out.mono ?_
    rintro e w3 ⟨sa, sn, sc, rfl, o3, g3⟩
    have hB3 := HC.out.2
    have O3 := Lib.hid (o3.mono (B' := w2.heap.size) (Nat.le_refl _)); have HB2 := Lib.hid (B2.out.lt)
    clear hB3
    have B3 := Lib.hid (B2.out.grown (below_grown g3) (by simp)); have C3 := Lib.hid (C2.out.grown (below_grown g3) (by simp)); have G3 := Lib.hid (Lib.grownBy_trans G2.out (below_grown g3))
    clear o3 g3 B2 C2 G2 HS
    cases h1 : keyOk x with
    | false =>
      have E := Lib.hid (show signL x v = (zeroV, 41) by unfold signL; rw [h, h1]; rfl)
      have K := Lib.hid (Key_no x w3 h1)
      clear h h1 hm
      go_wp2_with fail
      refine K.out.mono ?_
      rintro e w4 ⟨rfl, rfl⟩
      go_wp2_with (first | (refine wpList_build_eq rfl 40 _ rfl [] (by kernel_rfl) ZVote bVote0 ?_) | (refine wpList_store_whole rfl 40 _ _ rfl c rfl ZVote ZVote 40 rfl C3.out rfl ZVote_one (sizeVote _ ZVote_length) ?_))
      intro w4 g4 s4 b4
      have C4 := Lib.hid b4; have G4 := Lib.hid (grown_new G3.out g4 HC.out.1)
      clear b4 g4 s4
      go_wp2_with fail
      rw [E.out]
      refine bodyPost_ret (results_cell_tmp rfl _ _ ⟨c, 0, none⟩ _ _ rfl rfl (run_loadVar_part _ _ _ 40 ZVote _ C4.out.row Tryz.underlying40 rfl (sizeVote _ ZVote_length))) rfl ?_
      exact ⟨rfl, G4.out⟩
    | true =>
      have E := Lib.hid (show signL x v = (v.by (pw 37 x) (sgR x m) (sgS x m), 0) by unfold signL; rw [h, h1, hm]; rfl)
      have K := Key_yes x w3 h1
      have T := fun w4 h4 h5 => Sign_yes x m (.slice sa sn sc) w4 h1 h4 (by have := HL.out; omega) h5
      obtain ⟨kn, hkn⟩ : ∃ n, pw 37 x = n := ⟨_, rfl⟩
      obtain ⟨rn, hrn⟩ : ∃ n, sgR x m = n := ⟨_, rfl⟩
      obtain ⟨sn', hsn⟩ : ∃ n, sgS x m = n := ⟨_, rfl⟩
      rw [hkn] at K E; rw [hrn, hsn] at E T
      have HK := Lib.hid K; have HT := Lib.hid T
      clear h h1 hm K T hkn hrn hsn
      go_wp2_with fail
      refine HK.out.mono ?_
      rintro e w4 ⟨rfl, n4, hw4⟩
      have g4 : w3.grownBy w4 none := hw4 ▸ drew_grown w3 n4
      have B4 := Lib.hid (B3.out.grown g4 (by simp)); have C4 := Lib.hid (C3.out.grown g4 (by simp)); have G4 := Lib.hid (Lib.grownBy_trans G3.out g4)
      have O4 := Lib.hid (O3.out.kept g4)
      clear hw4 g4 B3 C3 G3 O3 HK
      go_wp2_with (first | (refine wpList_store_cell rfl 22 _ _ rfl b 36 rfl (.int .u64 (kn : Int)) rfl rfl v.cells 40 B4.out (by have := hcl.out; omega) (by kernel_rfl) ?_))
      intro w5 g5 s5 b5
      have G5 := Lib.hid (grown_new G4.out g5 (by rw [HB.out]; exact Nat.le_refl _))
      have B5 := Lib.hid b5; have C5 := Lib.hid (C4.out.grown g5 (by simpa using fun e => HC.out.2 e.symm)); have R5 := Lib.hid (O4.out.other g5 HB2.out).rd
      clear b5 g5 s5 B4 C4 G4 O4
      go_wp2_with fail
      refine (HT.out w5 R5.out (HR.out.grown G5.out (by simp))).mono ?_
      rintro e w6 ⟨rfl, g6⟩
      have B6 := Lib.hid (B5.out.grown g6 (by simp)); have C6 := Lib.hid (C5.out.grown g6 (by simp)); have G6 := Lib.hid (Lib.grownBy_trans G5.out g6)
      clear g6 B5 C5 G5 R5 HT
      go_wp2_with (first | (refine wpList_store_part rfl 38 _ _ rfl b 37 rfl (sigC rn sn') (v.cells.set 36 (.int .u64 (kn : Int))) 40 rfl B6.out (by rw [List.length_set, hcl.out]; exact (by decide : 37 + 2 ≤ 39)) (sigC_one rn sn') (sizeSigN rn sn') ?_))
      intro w7 g7 s7 b7
      have G7 := Lib.hid (grown_new G6.out g7 (by rw [HB.out]; exact Nat.le_refl _))
      have B7 := Lib.hid (show Blk w7 b (v.by kn rn sn').cells 40 by rw [← by_cells v Hv.out, List.append_assoc]; exact b7); have C7 := Lib.hid (C6.out.grown g7 (by simpa using fun e => HC.out.2 e.symm))
      clear b7 g7 s7 B6 C6 G6
      have bl := Lib.hid (by_length v Hv.out kn rn sn')
      have bw : ∀ x ∈ (v.by kn rn sn').cells, x.oneCell' = true := VoteD_one _
      have BW := Lib.hid bw
      clear bw
      go_wp2_with (first | (refine wpList_load_part rfl 40 _ rfl b 0 rfl (v.by kn rn sn').cells _ B7.out.row Tryz.underlying40 rfl (sizeVote _ bl.out) ?_) | (refine wpList_store_whole rfl 40 _ _ rfl c rfl (v.by kn rn sn').cells ZVote 40 rfl C7.out (by rw [bl.out]; rfl) BW.out (sizeVote _ bl.out) ?_))
      intro w8 g8 s8 b8
      have C8 := Lib.hid b8; have G8 := Lib.hid (grown_new G7.out g8 HC.out.1)
      clear b8 g8 s8
      go_wp2_with fail
      rw [E.out]
      refine bodyPost_ret (results_cell_tmp rfl _ _ ⟨c, 0, none⟩ _ _ rfl rfl (run_loadVar_part _ _ _ 40 _ _ C8.out.row Tryz.underlying40 rfl (sizeVote _ bl.out))) rfl ?_
      exact ⟨rfl, G8.out⟩

set_option maxHeartbeats 2000000 in
theorem RTSign_ok (x : Nat) (v : VoteD) (w : World) (hx : x < 18446744073709551616) (hv : v.wf) (hch : v.chain.size ≤ 140737488351232) :
    Calls Tryz.prog 51 #[.int .u64 (x : Int), .agg v.cells.toArray] w fun e w' => e = .returned (.tuple #[.agg (signL x v).1.cells.toArray, .int .i64 (signL x v).2]) ∧ w.grownBy w' none := by
  have Hv := Lib.hid hv; have HR := Lib.hid hch; have Hx := Lib.hid hx
  have hcl := Lib.hid (v.cells_length hv)
  clear hv hch hx
  go_enter Tryz.func51, Tryz.ntmps51
  go_wp2_with (first | (refine wpList_box_as rfl 40 _ rfl v.cells rfl ?_))
  intro w1 b1 g1 s1
  obtain ⟨b, hb⟩ : ∃ b, w.heap.size = b := ⟨_, rfl⟩
  rw [hb] at b1 ⊢
  have B1 := Lib.hid b1; have G1 := Lib.hid g1; have S1 := Lib.hid s1
  have HB := Lib.hid hb
  clear b1 g1 s1 hb
  go_wp2_with (refine wpList_alloc_as rfl 40 rfl ZVote ZVote_info ?_)
  intro w2 b2 g2 s2
  obtain ⟨c, hc⟩ : ∃ c, w1.heap.size = c := ⟨_, rfl⟩
  rw [hc] at b2 ⊢
  have hbc : w.heap.size ≤ c ∧ b ≠ c := by have := S1.out; have := HB.out; omega
  have HC := Lib.hid hbc
  have B2 := Lib.hid (B1.out.grown g2 (by simp)); have C2 := Lib.hid b2; have G2 := Lib.hid (Lib.grownBy_trans G1.out g2)
  clear b2 g2 s2 hc hbc B1 G1 S1
  go_wp2_with (refine wpList_load_part rfl 40 _ rfl b 0 rfl v.cells _ B2.out.row Tryz.underlying40 rfl (v.size Hv.out) ?_)
  have S := RSign v w2 Hv.out HR.out
  cases h : okVote v with
  | false =>
    rw [h] at S
    have E := Lib.hid (show signL x v = (zeroV, 61) by unfold signL; rw [h]; rfl)
    have HS := Lib.hid S
    clear S h
    refine HS.out.mono ?_
    rintro e w3 ⟨sa, sn, sc, rfl, o3, g3⟩
    clear o3
    have C3 := Lib.hid (C2.out.grown (below_grown g3) (by simp)); have G3 := Lib.hid (Lib.grownBy_trans G2.out (below_grown g3))
    clear g3 B2 C2 G2
    go_wp2_with (first | (refine wpList_build_eq rfl 40 _ rfl [] (by kernel_rfl) ZVote bVote0 ?_) | (refine wpList_store_whole rfl 40 _ _ rfl c rfl ZVote ZVote 40 rfl C3.out rfl ZVote_one (sizeVote _ ZVote_length) ?_))
    intro w4 g4 s4 b4
    have C4 := Lib.hid b4; have G4 := Lib.hid (grown_new G3.out g4 HC.out.1)
    clear b4 g4 s4
    go_wp2_with fail
    rw [E.out]
    refine bodyPost_ret (results_cell_tmp rfl _ _ ⟨c, 0, none⟩ _ _ rfl rfl (run_loadVar_part _ _ _ 40 ZVote _ C4.out.row Tryz.underlying40 rfl (sizeVote _ ZVote_length))) rfl ?_
    exact ⟨rfl, G4.out⟩
  | true =>
    rw [h] at S
    have HL := Lib.hid (bare_len v h Hv.out)
    obtain ⟨m, hm⟩ : ∃ m, encVote v.bare = m := ⟨_, rfl⟩
    rw [hm] at HL S
    have HS := Lib.hid S
    clear S
    refine HS.out.mono ?_
    rintro e w3 ⟨sa, sn, sc, rfl, o3, g3⟩
    have hB3 := HC.out.2
    have O3 := Lib.hid (o3.mono (B' := w2.heap.size) (Nat.le_refl _)); have HB2 := Lib.hid (B2.out.lt)
    clear hB3
    have B3 := Lib.hid (B2.out.grown (below_grown g3) (by simp)); have C3 := Lib.hid (C2.out.grown (below_grown g3) (by simp)); have G3 := Lib.hid (Lib.grownBy_trans G2.out (below_grown g3))
    clear o3 g3 B2 C2 G2 HS
    cases h1 : keyOk x with
    | false =>
      have E := Lib.hid (show signL x v = (zeroV, 41) by unfold signL; rw [h, h1]; rfl)
      have K0 := RKey_ok x w3 Hx.out
      rw [h1] at K0
      rw [if_neg (by simp), if_neg (by simp)] at K0
      have K := Lib.hid K0
      clear K0
      clear h h1 hm
      go_wp2_with fail
      refine K.out.mono ?_
      rintro e w4 ⟨rfl, rfl⟩
      go_wp2_with (first | (refine wpList_build_eq rfl 40 _ rfl [] (by kernel_rfl) ZVote bVote0 ?_) | (refine wpList_store_whole rfl 40 _ _ rfl c rfl ZVote ZVote 40 rfl C3.out rfl ZVote_one (sizeVote _ ZVote_length) ?_))
      intro w4 g4 s4 b4
      have C4 := Lib.hid b4; have G4 := Lib.hid (grown_new G3.out g4 HC.out.1)
      clear b4 g4 s4
      go_wp2_with fail
      rw [E.out]
      refine bodyPost_ret (results_cell_tmp rfl _ _ ⟨c, 0, none⟩ _ _ rfl rfl (run_loadVar_part _ _ _ 40 ZVote _ C4.out.row Tryz.underlying40 rfl (sizeVote _ ZVote_length))) rfl ?_
      exact ⟨rfl, G4.out⟩
    | true =>
      have E := Lib.hid (show signL x v = (v.by (pw 37 x) (sgR x m) (sgS x m), 0) by unfold signL; rw [h, h1, hm]; rfl)
      have K := RKey_ok x w3 Hx.out
      rw [h1] at K
      rw [if_pos rfl, if_pos rfl] at K
      have T := fun w4 h4 => RSign_ok x m (.slice sa sn sc) w4 Hx.out h4 (by have := HL.out; omega)
      rw [show sgL x m = (sgR x m, sgS x m) by unfold sgL; rw [if_pos h1]] at T
      simp only [h1, if_pos] at T
      obtain ⟨kn, hkn⟩ : ∃ n, pw 37 x = n := ⟨_, rfl⟩
      obtain ⟨rn, hrn⟩ : ∃ n, sgR x m = n := ⟨_, rfl⟩
      obtain ⟨sn', hsn⟩ : ∃ n, sgS x m = n := ⟨_, rfl⟩
      rw [hkn] at K E; rw [hrn, hsn] at E T
      have HK := Lib.hid K; have HT := Lib.hid T
      clear h h1 hm K T hkn hrn hsn
      go_wp2_with fail
      refine HK.out.mono ?_
      rintro e w4 ⟨rfl, rfl⟩
      clear HK
      go_wp2_with fail
      refine (HT.out w3 O3.out.rd).mono ?_
      rintro e w4 ⟨rfl, g4⟩
      have B4 := Lib.hid (B3.out.grown g4 (by simp)); have C4 := Lib.hid (C3.out.grown g4 (by simp)); have G4 := Lib.hid (Lib.grownBy_trans G3.out g4)
      have L4 := Lib.hid (Nat.lt_of_lt_of_le B3.out.lt g4.size)
      clear g4 B3 C3 G3 O3 HT HB2
      go_wp2_with (refine wpList_alloc_as rfl 38 rfl (sigC 0 0) ZSig_info ?_)
      intro w5 d5 g5 s5
      obtain ⟨d, hd⟩ : ∃ d, w4.heap.size = d := ⟨_, rfl⟩
      rw [hd] at d5 L4 ⊢
      have D5 := Lib.hid d5; have B5 := Lib.hid (B4.out.grown g5 (by simp)); have C5 := Lib.hid (C4.out.grown g5 (by simp)); have G5 := Lib.hid (Lib.grownBy_trans G4.out g5)
      have hdb := Lib.hid (show b ≠ d ∧ c ≠ d ∧ w.heap.size ≤ d by have := L4.out; have := C4.out.lt; have := G4.out.size; omega)
      clear d5 g5 s5 B4 C4 G4
      go_wp2_with (first | (refine wpList_store_whole rfl 38 _ _ rfl d rfl (sigC rn sn') (sigC 0 0) 38 rfl D5.out rfl (sigC_one rn sn') (sizeSigN rn sn') ?_))
      intro w6 g6 s6 d6
      have D6 := Lib.hid d6; have B6 := Lib.hid (B5.out.grown g6 (by simpa using hdb.out.1)); have C6 := Lib.hid (C5.out.grown g6 (by simpa using hdb.out.2.1)); have G6 := Lib.hid (grown_new G5.out g6 hdb.out.2.2)
      clear d6 g6 s6 B5 C5 D5 G5
      go_wp2_with (first | (refine wpList_store_cell rfl 22 _ _ rfl b 36 rfl (.int .u64 (kn : Int)) rfl rfl v.cells 40 B6.out (by have := hcl.out; omega) (by kernel_rfl) ?_))
      intro w7 g7 s7 b7
      have G7 := Lib.hid (grown_new G6.out g7 (by rw [HB.out]; exact Nat.le_refl _))
      have B7 := Lib.hid b7; have C7 := Lib.hid (C6.out.grown g7 (by simpa using fun e => HC.out.2 e.symm)); have D7 := Lib.hid (D6.out.grown g7 (by simpa using fun e => hdb.out.1 e.symm))
      clear b7 g7 s7 B6 C6 D6 G6
      go_wp2_with (first | (refine wpList_load_part rfl 38 _ rfl d 0 rfl (sigC rn sn') _ D7.out.row Tryz.underlying38 rfl (sizeSigN _ _) ?_) | (refine wpList_store_part rfl 38 _ _ rfl b 37 rfl (sigC rn sn') (v.cells.set 36 (.int .u64 (kn : Int))) 40 rfl B7.out (by rw [List.length_set, hcl.out]; exact (by decide : 37 + 2 ≤ 39)) (sigC_one rn sn') (sizeSigN rn sn') ?_))
      intro w8 g8 s8 b8
      have G8 := Lib.hid (grown_new G7.out g8 (by rw [HB.out]; exact Nat.le_refl _))
      have B8 := Lib.hid (show Blk w8 b (v.by kn rn sn').cells 40 by rw [← by_cells v Hv.out, List.append_assoc]; exact b8); have C8 := Lib.hid (C7.out.grown g8 (by simpa using fun e => HC.out.2 e.symm))
      clear b8 g8 s8 B7 C7 D7 G7
      have bl := Lib.hid (by_length v Hv.out kn rn sn')
      have bw : ∀ x ∈ (v.by kn rn sn').cells, x.oneCell' = true := VoteD_one _
      have BW := Lib.hid bw
      clear bw
      go_wp2_with (first | (refine wpList_load_part rfl 40 _ rfl b 0 rfl (v.by kn rn sn').cells _ B8.out.row Tryz.underlying40 rfl (sizeVote _ bl.out) ?_) | (refine wpList_store_whole rfl 40 _ _ rfl c rfl (v.by kn rn sn').cells ZVote 40 rfl C8.out (by rw [bl.out]; rfl) BW.out (sizeVote _ bl.out) ?_))
      intro w9 g9 s9 b9
      have C9 := Lib.hid b9; have G9 := Lib.hid (grown_new G8.out g9 HC.out.1)
      clear b9 g9 s9
      go_wp2_with fail
      rw [E.out]
      refine bodyPost_ret (results_cell_tmp rfl _ _ ⟨c, 0, none⟩ _ _ rfl rfl (run_loadVar_part _ _ _ 40 _ _ C9.out.row Tryz.underlying40 rfl (sizeVote _ bl.out))) rfl ?_
      exact ⟨rfl, G9.out⟩

theorem no_unit (a b P : Nat) (h : a % P = 0) (g : a * b % P = 1) : False := by
  rw [Nat.mul_mod, h, Nat.zero_mul, Nat.zero_mod] at g
  cases g
theorem pow_part (x k Q : Nat) (h : k % Q ≤ Q) : x ^ (k % Q) * x ^ (Q - k % Q) = x ^ Q := by
  rw [← Nat.pow_add]
  congr 1
  omega
theorem pos_of (Q k : Nat) (hQ : 0 < Q) (g : pw 37 Q = 1) (h : pw 37 (k % Q) = 0) : False := by
  unfold pw at g h
  rw [← pow_part 37 k Q (Nat.le_of_lt (Nat.mod_lt k hQ))] at g
  exact no_unit _ _ _ h g
theorem pw_pos (k : Nat) : 1 ≤ pw 37 k := by
  rcases Nat.eq_zero_or_pos (pw 37 k) with h | h
  · exact (pos_of pQ k (by decide) gen_order ((pw_mod_order k).trans h)).elim
  · exact h
theorem signed_sign (x : Nat) (v : VoteD) (_hx : keyOk x = true) (ho : okVote v = true) : signedB (v.by (pw 37 x) (sgR x (encVote v.bare)) (sgS x (encVote v.bare))) = true := by
  have e1 : okVote (v.by (pw 37 x) (sgR x (encVote v.bare)) (sgS x (encVote v.bare))) = true := ho
  have e2 : (v.by (pw 37 x) (sgR x (encVote v.bare)) (sgS x (encVote v.bare))).bare = v.bare := rfl
  have hP : 0 < pP := by decide
  have hQ : 0 < pQ := by decide
  unfold signedB
  rw [e1, e2]
  show (true && vfyL (((pw 37 x : Nat) : Int).toNat) (encVote v.bare) (((sgR x (encVote v.bare) : Nat) : Int).toNat) (((sgS x (encVote v.bare) : Nat) : Int).toNat)) = true
  rw [Int.toNat_natCast, Int.toNat_natCast, Int.toNat_natCast]
  unfold vfyL
  have a1 : 1 ≤ pw 37 x := pw_pos x
  have a2 : pw 37 x < pP := Nat.mod_lt _ hP
  have a3 : 1 ≤ sgR x (encVote v.bare) := pw_pos _
  have a4 : sgR x (encVote v.bare) < pP := Nat.mod_lt _ hP
  have a5 : sgS x (encVote v.bare) < pQ := Nat.mod_lt _ hQ
  have a6 : pw 37 (sgS x (encVote v.bare)) = sgR x (encVote v.bare) * pw (pw 37 x) (chalL (sgR x (encVote v.bare)) (pw 37 x) (encVote v.bare)) % pP := by
    unfold sgS
    exact schnorr_right x _ _
  simp [a1, a2, a3, a4, a5, a6]

end Go.Proofs.YtcbkehnlgpcelaaGreatDoor
