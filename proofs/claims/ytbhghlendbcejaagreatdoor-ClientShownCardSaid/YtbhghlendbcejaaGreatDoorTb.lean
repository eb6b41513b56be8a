/- Walks: tally.power, Two, One; nuncioref09.Two, One; Signed, of both. Walks: nuncioref09.Signed; Sign, of both. -/
import Derived.Test.YtbhghlendbcejaaGreatDoorSchR
import Derived.Test.YtbhghlendbcejaaGreatDoorPlain6
import Derived.Test.YtbhghlendbcejaaGreatDoorRJoin
namespace Go.Proofs.YtbhghlendbcejaaGreatDoor
open Go.RowKit
set_option maxRecDepth 100000

def powB (n : Int) : Bool := decide (0 ≤ n) && decide (n ≤ 1125899906842624)
def twoB (p t : Int) : Bool := powB p && (powB t && decide (2 * t < 3 * p))
def oneB (p t : Int) : Bool := powB p && (powB t && decide (t < 3 * p))
theorem powB_true {n : Int} (h : powB n = true) : 0 ≤ n ∧ n ≤ 1125899906842624 := by simpa [powB] using h

theorem power_ok (n : Int) (w : World) : Calls Tryz.prog 145 #[.int .i64 n] w fun e w' => e = .returned (.bool (powB n)) ∧ w = w' := by
  cases h1 : decide (0 ≤ n) with
  | false =>
    have E := Lib.hid (show powB n = false by unfold powB; rw [h1]; rfl)
    go_enter Tryz.func145, Tryz.ntmps145
    go_wp2
    go_ret
    rw [E.out]
    exact ⟨rfl, rfl⟩
  | true =>
    cases h2 : decide (n ≤ 1125899906842624) with
    | false =>
      have E := Lib.hid (show powB n = false by unfold powB; rw [h2]; simp)
      go_enter Tryz.func145, Tryz.ntmps145
      go_wp2
      go_ret
      rw [E.out]
      exact ⟨rfl, rfl⟩
    | true =>
      have E := Lib.hid (show powB n = true by unfold powB; rw [h1, h2]; rfl)
      go_enter Tryz.func145, Tryz.ntmps145
      go_wp2
      go_ret
      rw [E.out]
      exact ⟨rfl, rfl⟩

set_option maxHeartbeats 1000000 in
theorem Two_ok (p t : Int) (w : World) : Calls Tryz.prog 106 #[.int .i64 p, .int .i64 t] w fun e w' => e = .returned (.bool (twoB p t)) ∧ w = w' := by
  have CP := power_ok p w
  have CT := power_ok t w
  cases h1 : powB p with
  | false =>
    rw [h1] at CP
    have E := Lib.hid (show twoB p t = false by unfold twoB; rw [h1]; rfl)
    have HP := Lib.hid CP
    clear CP CT h1
    go_enter Tryz.func106, Tryz.ntmps106
    go_wp2_with (go_at_call 145; (with_reducible refine HP.out.mono ?_); rintro e w' ⟨rfl, rfl⟩)
    go_ret
    rw [E.out]
    exact ⟨rfl, rfl⟩
  | true =>
    rw [h1] at CP
    cases h2 : powB t with
    | false =>
      rw [h2] at CT
      have E := Lib.hid (show twoB p t = false by unfold twoB; rw [h1, h2]; rfl)
      have HP := Lib.hid CP; have HT := Lib.hid CT
      clear CP CT h1 h2
      go_enter Tryz.func106, Tryz.ntmps106
      go_wp2_with (go_at_call 145; first | ((with_reducible refine HP.out.mono ?_); rintro e w' ⟨rfl, rfl⟩) | ((with_reducible refine HT.out.mono ?_); rintro e w' ⟨rfl, rfl⟩))
      go_ret
      rw [E.out]
      exact ⟨rfl, rfl⟩
    | true =>
      rw [h2] at CT
      have E := Lib.hid (show twoB p t = decide (2 * t < 3 * p) by unfold twoB; rw [h1, h2]; rfl)
      obtain ⟨a1, a2⟩ := powB_true h1
      obtain ⟨b1, b2⟩ := powB_true h2
      have HP := Lib.hid CP; have HT := Lib.hid CT
      clear CP CT h1 h2
      go_enter Tryz.func106, Tryz.ntmps106
      go_wp2_with (go_at_call 145; first | ((with_reducible refine HP.out.mono ?_); rintro e w' ⟨rfl, rfl⟩) | ((with_reducible refine HT.out.mono ?_); rintro e w' ⟨rfl, rfl⟩))
      go_ret
      rw [E.out]
      exact ⟨rfl, rfl⟩
set_option maxHeartbeats 1000000 in
theorem RTwo_ok (p t : Int) (w : World) : Calls Tryz.prog 122 #[.int .i64 p, .int .i64 t] w fun e w' => e = .returned (.bool (twoB p t)) ∧ w = w' := by
  cases h1 : decide (0 ≤ p) with
  | false =>
    have E := Lib.hid (show twoB p t = false by unfold twoB powB; rw [h1]; rfl)
    go_enter Tryz.func122, Tryz.ntmps122
    go_wp2
    go_ret
    rw [E.out]
    exact ⟨rfl, rfl⟩
  | true =>
    cases h2 : decide (0 ≤ t) with
    | false =>
      have E := Lib.hid (show twoB p t = false by unfold twoB powB; rw [h2]; simp)
      go_enter Tryz.func122, Tryz.ntmps122
      go_wp2
      go_ret
      rw [E.out]
      exact ⟨rfl, rfl⟩
    | true =>
      cases h3 : decide (p ≤ 1125899906842624) with
      | false =>
        have E := Lib.hid (show twoB p t = false by unfold twoB powB; rw [h3]; simp)
        go_enter Tryz.func122, Tryz.ntmps122
        go_wp2
        go_ret
        rw [E.out]
        exact ⟨rfl, rfl⟩
      | true =>
        cases h4 : decide (t ≤ 1125899906842624) with
        | false =>
          have E := Lib.hid (show twoB p t = false by unfold twoB powB; rw [h4]; simp)
          go_enter Tryz.func122, Tryz.ntmps122
          go_wp2
          go_ret
          rw [E.out]
          exact ⟨rfl, rfl⟩
        | true =>
          have E := Lib.hid (show twoB p t = decide (2 * t < 3 * p) by unfold twoB powB; rw [h1, h2, h3, h4]; rfl)
          have a1 : 0 ≤ p := by simpa using h1
          have a2 : p ≤ 1125899906842624 := by simpa using h3
          have b1 : 0 ≤ t := by simpa using h2
          have b2 : t ≤ 1125899906842624 := by simpa using h4
          go_enter Tryz.func122, Tryz.ntmps122
          go_wp2
          go_ret
          rw [E.out]
          exact ⟨rfl, rfl⟩
def signedB (v : VoteD) : Bool := okVote v && vfyL v.key.toNat (encVote v.bare) v.r.toNat v.s.toNat
theorem u64_nat {n : Int} (h : u64R n) : n = ((n.toNat : Nat) : Int) ∧ n.toNat < 18446744073709551616 := by unfold u64R at h; omega
theorem bare_len (v : VoteD) (h : okVote v = true) (hv : v.wf) : (encVote v.bare).length ≤ 1000 := by
  have := okVote_len h
  have hb := hv.block
  simp [encVote, VoteD.bare, textL, be64_length, be16, be_length, hb]
  omega
theorem vote_sig (v : VoteD) (hv : v.wf) : (v.cells.drop 37).take 2 = sigC v.r.toNat v.s.toNat := by
  have h1 := (u64_nat hv.r).1; have h2 := (u64_nat hv.s).1
  unfold sigC
  rw [← h1, ← h2]
  have e : v.cells = ([.string v.chain, .int .i64 v.height, .int .i64 v.round, .int .i64 v.type] ++ Lib.byteCells v.block ++ [.int .u64 v.key]) ++ [.int .u64 v.r, .int .u64 v.s] := by simp [VoteD.cells]
  rw [e, List.drop_append_of_le_length (by simp [Lib.byteCells_length, hv.block]), List.drop_of_length_le (by simp [Lib.byteCells_length, hv.block])]
  rfl
theorem vote_key (v : VoteD) (hv : v.wf) : v.cells[36]? = some (.int .u64 (v.key.toNat : Int)) := by
  rw [← (u64_nat hv.key).1]
  have e : v.cells = ([.string v.chain, .int .i64 v.height, .int .i64 v.round, .int .i64 v.type] ++ Lib.byteCells v.block) ++ [.int .u64 v.key, .int .u64 v.r, .int .u64 v.s] := by simp [VoteD.cells]
  rw [e, List.getElem?_append_right (by simp [Lib.byteCells_length, hv.block])]
  simp [Lib.byteCells_length, hv.block]
theorem part_of {w : World} {g k n : Nat} {cs vs : List Value} (h : RowAt w g 0 cs) (e : (cs.drop k).take n = vs) : RowAt w g k vs := by
  have := h.part k n
  rw [e, Nat.zero_add] at this
  exact this

set_option maxHeartbeats 2000000 in
theorem Signed_ok (v : VoteD) (w : World) (hv : v.wf) (hR : RowAt w 1 0 (wCells rootsL)) :
    Calls Tryz.prog 144 #[.agg v.cells.toArray] w fun e w' => e = .returned (.bool (signedB v)) ∧ w.grownBy w' none := by
  have Hv := Lib.hid hv; have HR := Lib.hid hR
  clear hv hR
  go_enter Tryz.func144, Tryz.ntmps144
  go_wp2_with (first | (refine wpList_box_as rfl 149 _ rfl v.cells rfl ?_))
  intro w1 b1 g1 s1
  obtain ⟨b, hb⟩ : ∃ b, w.heap.size = b := ⟨_, rfl⟩
  rw [hb] at b1 ⊢
  have B1 := Lib.hid b1; have G1 := Lib.hid g1
  clear b1 g1 s1 hb
  go_wp2_with (refine wpList_load_part rfl 149 _ rfl b 0 rfl v.cells _ B1.out.row Tryz.underlying149 rfl (v.size Hv.out) ?_)
  cases h : okVote v with
  | false =>
    have S := SignBytes_no v w1 Hv.out h
    have E := Lib.hid (show signedB v = false by unfold signedB; rw [h]; rfl)
    have HS := Lib.hid S
    clear S h
    refine HS.out.mono ?_
    rintro e w2 ⟨rfl, g2⟩
    have G2 := Lib.hid (Lib.grownBy_trans G1.out (below_grown g2))
    clear g2
    go_wp2_with fail
    go_ret
    rw [E.out]
    exact ⟨rfl, G2.out⟩
  | true =>
    obtain ⟨kn, hkn⟩ : ∃ n, v.key.toNat = n := ⟨_, rfl⟩
    obtain ⟨rn, hrn⟩ : ∃ n, v.r.toNat = n := ⟨_, rfl⟩
    obtain ⟨sn, hsn⟩ : ∃ n, v.s.toNat = n := ⟨_, rfl⟩
    have L1 := Lib.hid (hkn ▸ (u64_nat Hv.out.key).2); have L2 := Lib.hid (hrn ▸ (u64_nat Hv.out.r).2); have L3 := Lib.hid (hsn ▸ (u64_nat Hv.out.s).2)
    have VK := Lib.hid (vote_key v Hv.out); have VS := Lib.hid (vote_sig v Hv.out)
    rw [hkn] at VK; rw [hrn, hsn] at VS
    have S := SignBytes_yes v w1 Hv.out h
    obtain ⟨m, hm⟩ : ∃ m, encVote v.bare = m := ⟨_, rfl⟩
    have E := Lib.hid (show signedB v = vfyL kn m rn sn by unfold signedB; rw [h, hkn, hrn, hsn, hm]; rfl)
    have HL := Lib.hid (bare_len v h Hv.out)
    rw [hm] at HL S
    have HS := Lib.hid S
    clear S h hkn hrn hsn hm
    refine HS.out.mono ?_
    rintro e w2 ⟨a, n, c, rfl, o2, g2⟩
    have R2 := Lib.hid o2.rd; have B2 := Lib.hid (B1.out.grown (below_grown g2) (by simp)); have G2 := Lib.hid (Lib.grownBy_trans G1.out (below_grown g2))
    have q1 : w2.cell? ⟨b, 36, none⟩ = some (.int .u64 (kn : Int)) := by have := B2.out.row 36 _ VK.out; rwa [Nat.zero_add] at this
    have r1 := Lib.hid (part_of (k := 37) (n := 2) B2.out.row VS.out)
    clear o2 g2 B1 G1
    go_wp2_with (refine wpList_load_part rfl 126 _ rfl b 37 rfl (sigC rn sn) _ r1.out Tryz.underlying126 rfl (sizeSigN _ _) ?_)
    refine (Verify_ok kn rn sn m _ w2 L1.out L2.out L3.out R2.out (by have := HL.out; omega) (HR.out.grown G2.out (by simp))).mono ?_
    rintro e w3 ⟨rfl, g3⟩
    rw [← E.out]
    have G3 := Lib.hid (Lib.grownBy_trans G2.out g3)
    clear g3 q1
    go_wp2_with fail
    go_ret
    exact ⟨rfl, G3.out⟩

set_option maxHeartbeats 2000000 in
theorem RSigned_ok (v : VoteD) (w : World) (hv : v.wf) (hc : v.chain.size ≤ 140737488351232) :
    Calls Tryz.prog 88 #[.agg v.cells.toArray] w fun e w' => e = .returned (.bool (signedB v)) ∧ w.grownBy w' none := by
  have Hv := Lib.hid hv; have Hc := Lib.hid hc
  clear hv hc
  go_enter Tryz.func88, Tryz.ntmps88
  go_wp2_with (first | (refine wpList_box_as rfl 149 _ rfl v.cells rfl ?_))
  intro w1 b1 g1 s1
  obtain ⟨b, hb⟩ : ∃ b, w.heap.size = b := ⟨_, rfl⟩
  rw [hb] at b1 ⊢
  have B1 := Lib.hid b1; have G1 := Lib.hid g1
  clear b1 g1 s1 hb
  go_wp2_with (refine wpList_load_part rfl 149 _ rfl b 0 rfl v.cells _ B1.out.row Tryz.underlying149 rfl (v.size Hv.out) ?_)
  have S := RSign v w1 Hv.out Hc.out
  cases h : okVote v with
  | false =>
    rw [h] at S
    have E := Lib.hid (show signedB v = false by unfold signedB; rw [h]; rfl)
    have HS := Lib.hid S
    clear S h
    refine HS.out.mono ?_
    rintro e w2 ⟨a, n, c, rfl, o2, g2⟩
    have G2 := Lib.hid (Lib.grownBy_trans G1.out (below_grown g2))
    clear o2 g2
    go_wp2_with fail
    go_ret
    rw [E.out]
    exact ⟨rfl, G2.out⟩
  | true =>
    obtain ⟨kn, hkn⟩ : ∃ n, v.key.toNat = n := ⟨_, rfl⟩
    obtain ⟨rn, hrn⟩ : ∃ n, v.r.toNat = n := ⟨_, rfl⟩
    obtain ⟨sn, hsn⟩ : ∃ n, v.s.toNat = n := ⟨_, rfl⟩
    have L1 := Lib.hid (hkn ▸ (u64_nat Hv.out.key).2); have L2 := Lib.hid (hrn ▸ (u64_nat Hv.out.r).2); have L3 := Lib.hid (hsn ▸ (u64_nat Hv.out.s).2)
    have VK := Lib.hid (vote_key v Hv.out); have VS := Lib.hid (vote_sig v Hv.out)
    rw [hkn] at VK; rw [hrn, hsn] at VS
    obtain ⟨m, hm⟩ : ∃ m, encVote v.bare = m := ⟨_, rfl⟩
    have E := Lib.hid (show signedB v = vfyL kn m rn sn by unfold signedB; rw [h, hkn, hrn, hsn, hm]; rfl)
    have HL := Lib.hid (bare_len v h Hv.out)
    rw [h, hm] at S
    rw [hm] at HL
    have HS := Lib.hid S
    clear S h hkn hrn hsn hm
    refine HS.out.mono ?_
    rintro e w2 ⟨a, n, c, rfl, o2, g2⟩
    have R2 := Lib.hid o2.rd; have B2 := Lib.hid (B1.out.grown (below_grown g2) (by simp)); have G2 := Lib.hid (Lib.grownBy_trans G1.out (below_grown g2))
    have q1 : w2.cell? ⟨b, 36, none⟩ = some (.int .u64 (kn : Int)) := by have := B2.out.row 36 _ VK.out; rwa [Nat.zero_add] at this
    have r1 := Lib.hid (part_of (k := 37) (n := 2) B2.out.row VS.out)
    clear o2 g2 B1 G1
    go_wp2_with (refine wpList_load_part rfl 126 _ rfl b 37 rfl (sigC rn sn) _ r1.out Tryz.underlying126 rfl (sizeSigN _ _) ?_)
    refine (RVerify_ok kn rn sn m _ w2 L1.out L2.out L3.out R2.out (by have := HL.out; omega)).mono ?_
    rintro e w3 ⟨rfl, g3⟩
    rw [← E.out]
    have G3 := Lib.hid (Lib.grownBy_trans G2.out g3)
    clear g3 q1
    go_wp2_with fail
    go_ret
    exact ⟨rfl, G3.out⟩

def zeroV : VoteD := ⟨⟨#[]⟩, 0, 0, 0, List.replicate 32 0, 0, 0, 0⟩
theorem zeroV_cells : zeroV.cells = ZVote := rfl
def VoteD.by (v : VoteD) (k r s : Nat) : VoteD := { v with key := k, r := r, s := s }
def signL (x : Nat) (v : VoteD) : VoteD × Int :=
  if okVote v then (if keyOk x then (v.by (pw 37 x) (sgR x (encVote v.bare)) (sgS x (encVote v.bare)), 0) else (zeroV, 41)) else (zeroV, 61)
theorem by_cells (v : VoteD) (h : v.wf) (k r s : Nat) : (v.cells.set 36 (Value.int .u64 (k : Int))).take 37 ++ sigC r s ++ (v.cells.set 36 (Value.int .u64 (k : Int))).drop (37 + 2) = (v.by k r s).cells := by
  unfold VoteD.cells VoteD.by sigC
  generalize hp : [Value.string v.chain, .int .i64 v.height, .int .i64 v.round, .int .i64 v.type] ++ Lib.byteCells v.block = p
  have hlen : p.length = 36 := by rw [← hp]; simp [Lib.byteCells_length, h.block]
  rw [List.set_append_right _ _ (by omega), hlen]
  show (p ++ ([.int .u64 k, .int .u64 v.r, .int .u64 v.s] : List Value)).take 37 ++ ([.int .u64 r, .int .u64 s] : List Value) ++ (p ++ ([.int .u64 k, .int .u64 v.r, .int .u64 v.s] : List Value)).drop 39 = _
  rw [List.take_append, List.take_of_length_le (by omega), hlen, List.drop_eq_nil_of_le (by simp [hlen])]
  simp
theorem bVote0 : Tryz.prog.built 149 [] = some ZVote.toArray := by kernel_rfl
theorem by_length (v : VoteD) (h : v.wf) (k r s : Nat) : (v.by k r s).cells.length = 39 := by simp [VoteD.cells, VoteD.by, Lib.byteCells_length, h.block]
theorem sgS_u64 (x : Nat) (m : List UInt8) : sgS x m < 18446744073709551616 := by
  have : sgS x m < pQ := Nat.mod_lt _ (by decide)
  unfold pQ at this; omega
theorem by_wf (v : VoteD) (h : v.wf) (k r s : Nat) (hk : k < 18446744073709551616) (hr : r < 18446744073709551616) (hs : s < 18446744073709551616) : (v.by k r s).wf := by
  obtain ⟨a1, a2, a3, a4, a5, a6, a7, a8⟩ := h
  exact ⟨a1, a2, a3, a4, a5, by simp only [VoteD.by, u64R]; omega, by simp only [VoteD.by, u64R]; omega, by simp only [VoteD.by, u64R]; omega⟩
theorem zeroV_wf : zeroV.wf := ⟨by decide, by unfold i64R; decide, by unfold i64R; decide, by unfold i64R; decide, by decide, by unfold u64R; decide, by unfold u64R; decide, by unfold u64R; decide⟩
theorem OwnB.other {B b : Nat} {v : Value} {l : List UInt8} {w w' : World} (h : OwnB B v l w) (hg : w.grownBy w' (some b)) (hb : b < B) : OwnB B v l w' := by
  refine World.ownsRow.kept h hg ?_
  rcases h.2 with ⟨rfl, _⟩ | ⟨g, cap, cur, rfl, hB, _⟩
  · exact .inl rfl
  · refine .inr ?_
    simp [Value.ownBlock]; omega

theorem no_unit (a b P : Nat) (h : a % P = 0) (g : a * b % P = 1) : False := by
  rw [Nat.mul_mod, h, Nat.zero_mul, Nat.zero_mod] at g
  cases g
theorem pow_part (x k Q : Nat) (h : k % Q ≤ Q) : x ^ (k % Q) * x ^ (Q - k % Q) = x ^ Q := by
  rw [← Nat.pow_add]
  congr 1
  omega
theorem pos_of (Q k : Nat) (hQ : 0 < Q) (g : pw 37 Q = 1) (h : pw 37 (k % Q) = 0) : False := by
  unfold pw at g h
  rw [← pow_part 37 k Q (Nat.le_of_lt (Nat.mod_lt k hQ))] at g
  exact no_unit _ _ _ h g
theorem pw_pos (k : Nat) : 1 ≤ pw 37 k := by
  rcases Nat.eq_zero_or_pos (pw 37 k) with h | h
  · exact (pos_of pQ k (by decide) gen_order ((pw_mod_order k).trans h)).elim
  · exact h
theorem signed_sign (x : Nat) (v : VoteD) (_hx : keyOk x = true) (ho : okVote v = true) : signedB (v.by (pw 37 x) (sgR x (encVote v.bare)) (sgS x (encVote v.bare))) = true := by
  have e1 : okVote (v.by (pw 37 x) (sgR x (encVote v.bare)) (sgS x (encVote v.bare))) = true := ho
  have e2 : (v.by (pw 37 x) (sgR x (encVote v.bare)) (sgS x (encVote v.bare))).bare = v.bare := rfl
  have hP : 0 < pP := by decide
  have hQ : 0 < pQ := by decide
  unfold signedB
  rw [e1, e2]
  show (true && vfyL (((pw 37 x : Nat) : Int).toNat) (encVote v.bare) (((sgR x (encVote v.bare) : Nat) : Int).toNat) (((sgS x (encVote v.bare) : Nat) : Int).toNat)) = true
  rw [Int.toNat_natCast, Int.toNat_natCast, Int.toNat_natCast]
  unfold vfyL
  have a1 : 1 ≤ pw 37 x := pw_pos x
  have a2 : pw 37 x < pP := Nat.mod_lt _ hP
  have a3 : 1 ≤ sgR x (encVote v.bare) := pw_pos _
  have a4 : sgR x (encVote v.bare) < pP := Nat.mod_lt _ hP
  have a5 : sgS x (encVote v.bare) < pQ := Nat.mod_lt _ hQ
  have a6 : pw 37 (sgS x (encVote v.bare)) = sgR x (encVote v.bare) * pw (pw 37 x) (chalL (sgR x (encVote v.bare)) (pw 37 x) (encVote v.bare)) % pP := by
    unfold sgS
    exact schnorr_right x _ _
  simp [a1, a2, a3, a4, a5, a6]

end Go.Proofs.YtbhghlendbcejaaGreatDoor
