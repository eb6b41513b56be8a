/- What a script asks of a signer; walks: Ahead, signed, SameVotes, SignerNil; a signer that is kept. -/
import Derived.Test.YtcbkehnlgpcelaaGreatDoorSg9
namespace Go.Proofs.YtcbkehnlgpcelaaGreatDoor
open Go.RowKit
set_option maxRecDepth 100000

/-- an ask of a script -/
structure AskD where
  kind : Int
  h : Int
  r : Int
  t : Int
  block : List UInt8
  at_ : Int
  torn : Int
  bv : Value
def AskD.cells (a : AskD) : List Value := [.int .i64 a.kind, .int .i64 a.h, .int .i64 a.r, .int .i64 a.t] ++ Lib.byteCells a.block ++ [.int .i64 a.at_, .int .i64 a.torn, a.bv]
structure AskD.wf (a : AskD) : Prop where
  kind : i64R a.kind
  h : i64R a.h
  r : i64R a.r
  t : i64R a.t
  block : a.block.length = 32
  at_ : i64R a.at_
  torn : i64R a.torn
  bv : a.bv.oneCell' = true
def asksCells (l : List AskD) : List Value := l.flatMap AskD.cells
theorem AskD.cells_length (a : AskD) (h : a.wf) : a.cells.length = 39 := by simp [AskD.cells, Lib.byteCells_length, h.block]
theorem AskD.blockRow {w : World} {g k : Nat} {a : AskD} (h : RowAt w g k a.cells) (hw : a.wf) : RowAt w g (k + 4) (Lib.byteCells a.block) := by
  have e : (a.cells.drop 4).take 32 = Lib.byteCells a.block := by simp [AskD.cells, List.drop_append, Lib.byteCells_length, hw.block]
  exact e ▸ h.part 4 32
theorem asks_at {B : Nat} {w : World} {v : Value} {s : List AskD} (h : RdS B w v s.length 39 (asksCells s)) (hw : ∀ a ∈ s, a.wf) (k : Nat) (hk : k < s.length) : ∃ g o c, v = .slice (some ⟨g, o, none⟩) s.length c ∧ g < B ∧ RowAt w g (o + k * 39) s[k].cells := by
  obtain ⟨ao, c, rfl, _, _, hlen, h0 | ⟨g, o, rfl, hg, hr⟩⟩ := h
  · omega
  · refine ⟨g, o, c, rfl, hg, ?_⟩
    exact RowAt.elem hr (fun d hd => d.cells_length (hw d hd)) k hk
theorem cmpI_neg (x y : Int) : cmpI x y < 0 ↔ x < y := by unfold cmpI; split <;> (try split) <;> omega
theorem cmpI_zero (x y : Int) : cmpI x y = 0 ↔ x = y := by unfold cmpI; split <;> (try split) <;> omega
theorem ahead_dec (p q : Pl) : aheadB p q = (if p.h ≠ q.h then decide (p.h < q.h) else if p.r ≠ q.r then decide (p.r < q.r) else decide (p.t < q.t)) := by
  unfold aheadB cmpP
  simp only [cmpI_zero]
  by_cases h1 : p.h = q.h
  · by_cases h2 : p.r = q.r
    · simp [h1, h2, cmpI_neg]
    · simp [h1, h2, cmpI_neg]
  · simp [h1, cmpI_neg]
set_option maxHeartbeats 2000000 in
theorem RAhead_ok (u v : VoteD) (w0 : World) : Calls Tryz.prog 14 #[.agg u.cells.toArray, .agg v.cells.toArray] w0 fun e w' => e = .returned (.bool (aheadB u.pl v.pl)) ∧ w0.grownBy w' none := by
  have O := OwF.start (fun _ => False) w0
  have HE := Lib.hid (ahead_dec u.pl v.pl)
  obtain ⟨V, hV⟩ : ∃ b, aheadB u.pl v.pl = b := ⟨_, rfl⟩
  rw [hV] at HE ⊢
  clear hV
  have c0 := Lib.hid (show u.cells[1]? = some (.int .i64 u.pl.h) from rfl); have c1 := Lib.hid (show v.cells[1]? = some (.int .i64 v.pl.h) from rfl)
  have c2 := Lib.hid (show u.cells[2]? = some (.int .i64 u.pl.r) from rfl); have c3 := Lib.hid (show v.cells[2]? = some (.int .i64 v.pl.r) from rfl)
  have c4 := Lib.hid (show u.cells[3]? = some (.int .i64 u.pl.t) from rfl); have c5 := Lib.hid (show v.cells[3]? = some (.int .i64 v.pl.t) from rfl)
  obtain ⟨p, hp⟩ : ∃ p, u.pl = p := ⟨_, rfl⟩
  obtain ⟨q, hq⟩ : ∃ p, v.pl = p := ⟨_, rfl⟩
  rw [hp] at HE c0 c2 c4; rw [hq] at HE c1 c3 c5
  obtain ⟨ph, pr, pt⟩ := p
  obtain ⟨qh, qr, qt⟩ := q
  dsimp only at HE c0 c1 c2 c3 c4 c5
  clear hp hq
  go_enter Tryz.func14, Tryz.ntmps14
  by_cases h1 : ph = qh
  · have d1 : (ph == qh) = true := by simpa using h1
    by_cases h2 : pr = qr
    · have d2 : (pr == qr) = true := by simpa using h2
      obtain rfl : V = decide (pt < qt) := by rw [HE.out, if_neg (by simp [h1]), if_neg (by simp [h2])]
      subst h1 h2
      clear d1 d2
      go_wp2_with (first | ((with_reducible refine @wpList_at _ _ _ _ _ _ _ (.box 40 (.tmp 0)) rfl ?_); refine @wpList_of_box _ _ _ _ _ _ _ _ _ _ 40 (.tmp 0) rfl u.cells rfl O rfl ?_; clear O; intro b2 w O) | ((with_reducible refine @wpList_at _ _ _ _ _ _ _ (.box 40 (.tmp 1)) rfl ?_); refine @wpList_of_box _ _ _ _ _ _ _ _ _ _ 40 (.tmp 1) rfl v.cells rfl O rfl ?_; clear O; intro b3 w O) | ((with_reducible refine @wpList_at _ _ _ _ _ _ _ (.load 3 (.tmp 5)) rfl ?_); refine @wpList_of_cell _ _ _ _ _ _ _ _ _ _ 3 (.tmp 5) rfl O 1 b2 1 rfl _ _ rfl (.int .i64 _) c0.out _ Tryz.underlying3 rfl rfl ?_) | ((with_reducible refine @wpList_at _ _ _ _ _ _ _ (.load 3 (.tmp 10)) rfl ?_); refine @wpList_of_cell _ _ _ _ _ _ _ _ _ _ 3 (.tmp 10) rfl O 1 b2 1 rfl _ _ rfl (.int .i64 _) c0.out _ Tryz.underlying3 rfl rfl ?_) | ((with_reducible refine @wpList_at _ _ _ _ _ _ _ (.load 3 (.tmp 7)) rfl ?_); refine @wpList_of_cell _ _ _ _ _ _ _ _ _ _ 3 (.tmp 7) rfl O 0 b3 1 rfl _ _ rfl (.int .i64 _) c1.out _ Tryz.underlying3 rfl rfl ?_) | ((with_reducible refine @wpList_at _ _ _ _ _ _ _ (.load 3 (.tmp 12)) rfl ?_); refine @wpList_of_cell _ _ _ _ _ _ _ _ _ _ 3 (.tmp 12) rfl O 0 b3 1 rfl _ _ rfl (.int .i64 _) c1.out _ Tryz.underlying3 rfl rfl ?_) | ((with_reducible refine @wpList_at _ _ _ _ _ _ _ (.load 3 (.tmp 15)) rfl ?_); refine @wpList_of_cell _ _ _ _ _ _ _ _ _ _ 3 (.tmp 15) rfl O 1 b2 2 rfl _ _ rfl (.int .i64 _) c2.out _ Tryz.underlying3 rfl rfl ?_) | ((with_reducible refine @wpList_at _ _ _ _ _ _ _ (.load 3 (.tmp 20)) rfl ?_); refine @wpList_of_cell _ _ _ _ _ _ _ _ _ _ 3 (.tmp 20) rfl O 1 b2 2 rfl _ _ rfl (.int .i64 _) c2.out _ Tryz.underlying3 rfl rfl ?_) | ((with_reducible refine @wpList_at _ _ _ _ _ _ _ (.load 3 (.tmp 17)) rfl ?_); refine @wpList_of_cell _ _ _ _ _ _ _ _ _ _ 3 (.tmp 17) rfl O 0 b3 2 rfl _ _ rfl (.int .i64 _) c3.out _ Tryz.underlying3 rfl rfl ?_) | ((with_reducible refine @wpList_at _ _ _ _ _ _ _ (.load 3 (.tmp 22)) rfl ?_); refine @wpList_of_cell _ _ _ _ _ _ _ _ _ _ 3 (.tmp 22) rfl O 0 b3 2 rfl _ _ rfl (.int .i64 _) c3.out _ Tryz.underlying3 rfl rfl ?_) | ((with_reducible refine @wpList_at _ _ _ _ _ _ _ (.load 24 (.tmp 25)) rfl ?_); refine @wpList_of_cell _ _ _ _ _ _ _ _ _ _ 24 (.tmp 25) rfl O 1 b2 3 rfl _ _ rfl (.int .i64 pt) c4.out _ Tryz.underlying24 rfl rfl ?_) | ((with_reducible refine @wpList_at _ _ _ _ _ _ _ (.load 24 (.tmp 27)) rfl ?_); refine @wpList_of_cell _ _ _ _ _ _ _ _ _ _ 24 (.tmp 27) rfl O 0 b3 3 rfl _ _ rfl (.int .i64 qt) c5.out _ Tryz.underlying24 rfl rfl ?_))
      go_ret
      exact ⟨rfl, O.tch.grown (fun _ h => h.elim)⟩
    · have d2 : (pr == qr) = false := by simpa using h2
      obtain rfl : V = decide (pr < qr) := by rw [HE.out, if_neg (by simp [h1]), if_pos h2]
      subst h1
      clear d1
      go_wp2_with (first | ((with_reducible refine @wpList_at _ _ _ _ _ _ _ (.box 40 (.tmp 0)) rfl ?_); refine @wpList_of_box _ _ _ _ _ _ _ _ _ _ 40 (.tmp 0) rfl u.cells rfl O rfl ?_; clear O; intro b2 w O) | ((with_reducible refine @wpList_at _ _ _ _ _ _ _ (.box 40 (.tmp 1)) rfl ?_); refine @wpList_of_box _ _ _ _ _ _ _ _ _ _ 40 (.tmp 1) rfl v.cells rfl O rfl ?_; clear O; intro b3 w O) | ((with_reducible refine @wpList_at _ _ _ _ _ _ _ (.load 3 (.tmp 5)) rfl ?_); refine @wpList_of_cell _ _ _ _ _ _ _ _ _ _ 3 (.tmp 5) rfl O 1 b2 1 rfl _ _ rfl (.int .i64 _) c0.out _ Tryz.underlying3 rfl rfl ?_) | ((with_reducible refine @wpList_at _ _ _ _ _ _ _ (.load 3 (.tmp 10)) rfl ?_); refine @wpList_of_cell _ _ _ _ _ _ _ _ _ _ 3 (.tmp 10) rfl O 1 b2 1 rfl _ _ rfl (.int .i64 _) c0.out _ Tryz.underlying3 rfl rfl ?_) | ((with_reducible refine @wpList_at _ _ _ _ _ _ _ (.load 3 (.tmp 7)) rfl ?_); refine @wpList_of_cell _ _ _ _ _ _ _ _ _ _ 3 (.tmp 7) rfl O 0 b3 1 rfl _ _ rfl (.int .i64 _) c1.out _ Tryz.underlying3 rfl rfl ?_) | ((with_reducible refine @wpList_at _ _ _ _ _ _ _ (.load 3 (.tmp 12)) rfl ?_); refine @wpList_of_cell _ _ _ _ _ _ _ _ _ _ 3 (.tmp 12) rfl O 0 b3 1 rfl _ _ rfl (.int .i64 _) c1.out _ Tryz.underlying3 rfl rfl ?_) | ((with_reducible refine @wpList_at _ _ _ _ _ _ _ (.load 3 (.tmp 15)) rfl ?_); refine @wpList_of_cell _ _ _ _ _ _ _ _ _ _ 3 (.tmp 15) rfl O 1 b2 2 rfl _ _ rfl (.int .i64 _) c2.out _ Tryz.underlying3 rfl rfl ?_) | ((with_reducible refine @wpList_at _ _ _ _ _ _ _ (.load 3 (.tmp 20)) rfl ?_); refine @wpList_of_cell _ _ _ _ _ _ _ _ _ _ 3 (.tmp 20) rfl O 1 b2 2 rfl _ _ rfl (.int .i64 _) c2.out _ Tryz.underlying3 rfl rfl ?_) | ((with_reducible refine @wpList_at _ _ _ _ _ _ _ (.load 3 (.tmp 17)) rfl ?_); refine @wpList_of_cell _ _ _ _ _ _ _ _ _ _ 3 (.tmp 17) rfl O 0 b3 2 rfl _ _ rfl (.int .i64 _) c3.out _ Tryz.underlying3 rfl rfl ?_) | ((with_reducible refine @wpList_at _ _ _ _ _ _ _ (.load 3 (.tmp 22)) rfl ?_); refine @wpList_of_cell _ _ _ _ _ _ _ _ _ _ 3 (.tmp 22) rfl O 0 b3 2 rfl _ _ rfl (.int .i64 _) c3.out _ Tryz.underlying3 rfl rfl ?_) | ((with_reducible refine @wpList_at _ _ _ _ _ _ _ (.load 24 (.tmp 25)) rfl ?_); refine @wpList_of_cell _ _ _ _ _ _ _ _ _ _ 24 (.tmp 25) rfl O 1 b2 3 rfl _ _ rfl (.int .i64 pt) c4.out _ Tryz.underlying24 rfl rfl ?_) | ((with_reducible refine @wpList_at _ _ _ _ _ _ _ (.load 24 (.tmp 27)) rfl ?_); refine @wpList_of_cell _ _ _ _ _ _ _ _ _ _ 24 (.tmp 27) rfl O 0 b3 3 rfl _ _ rfl (.int .i64 qt) c5.out _ Tryz.underlying24 rfl rfl ?_))
      go_ret
      exact ⟨rfl, O.tch.grown (fun _ h => h.elim)⟩
  · have d1 : (ph == qh) = false := by simpa using h1
    obtain rfl : V = decide (ph < qh) := by rw [HE.out, if_pos h1]
    go_wp2_with (first | ((with_reducible refine @wpList_at _ _ _ _ _ _ _ (.box 40 (.tmp 0)) rfl ?_); refine @wpList_of_box _ _ _ _ _ _ _ _ _ _ 40 (.tmp 0) rfl u.cells rfl O rfl ?_; clear O; intro b2 w O) | ((with_reducible refine @wpList_at _ _ _ _ _ _ _ (.box 40 (.tmp 1)) rfl ?_); refine @wpList_of_box _ _ _ _ _ _ _ _ _ _ 40 (.tmp 1) rfl v.cells rfl O rfl ?_; clear O; intro b3 w O) | ((with_reducible refine @wpList_at _ _ _ _ _ _ _ (.load 3 (.tmp 5)) rfl ?_); refine @wpList_of_cell _ _ _ _ _ _ _ _ _ _ 3 (.tmp 5) rfl O 1 b2 1 rfl _ _ rfl (.int .i64 _) c0.out _ Tryz.underlying3 rfl rfl ?_) | ((with_reducible refine @wpList_at _ _ _ _ _ _ _ (.load 3 (.tmp 10)) rfl ?_); refine @wpList_of_cell _ _ _ _ _ _ _ _ _ _ 3 (.tmp 10) rfl O 1 b2 1 rfl _ _ rfl (.int .i64 _) c0.out _ Tryz.underlying3 rfl rfl ?_) | ((with_reducible refine @wpList_at _ _ _ _ _ _ _ (.load 3 (.tmp 7)) rfl ?_); refine @wpList_of_cell _ _ _ _ _ _ _ _ _ _ 3 (.tmp 7) rfl O 0 b3 1 rfl _ _ rfl (.int .i64 _) c1.out _ Tryz.underlying3 rfl rfl ?_) | ((with_reducible refine @wpList_at _ _ _ _ _ _ _ (.load 3 (.tmp 12)) rfl ?_); refine @wpList_of_cell _ _ _ _ _ _ _ _ _ _ 3 (.tmp 12) rfl O 0 b3 1 rfl _ _ rfl (.int .i64 _) c1.out _ Tryz.underlying3 rfl rfl ?_) | ((with_reducible refine @wpList_at _ _ _ _ _ _ _ (.load 3 (.tmp 15)) rfl ?_); refine @wpList_of_cell _ _ _ _ _ _ _ _ _ _ 3 (.tmp 15) rfl O 1 b2 2 rfl _ _ rfl (.int .i64 _) c2.out _ Tryz.underlying3 rfl rfl ?_) | ((with_reducible refine @wpList_at _ _ _ _ _ _ _ (.load 3 (.tmp 20)) rfl ?_); refine @wpList_of_cell _ _ _ _ _ _ _ _ _ _ 3 (.tmp 20) rfl O 1 b2 2 rfl _ _ rfl (.int .i64 _) c2.out _ Tryz.underlying3 rfl rfl ?_) | ((with_reducible refine @wpList_at _ _ _ _ _ _ _ (.load 3 (.tmp 17)) rfl ?_); refine @wpList_of_cell _ _ _ _ _ _ _ _ _ _ 3 (.tmp 17) rfl O 0 b3 2 rfl _ _ rfl (.int .i64 _) c3.out _ Tryz.underlying3 rfl rfl ?_) | ((with_reducible refine @wpList_at _ _ _ _ _ _ _ (.load 3 (.tmp 22)) rfl ?_); refine @wpList_of_cell _ _ _ _ _ _ _ _ _ _ 3 (.tmp 22) rfl O 0 b3 2 rfl _ _ rfl (.int .i64 _) c3.out _ Tryz.underlying3 rfl rfl ?_) | ((with_reducible refine @wpList_at _ _ _ _ _ _ _ (.load 24 (.tmp 25)) rfl ?_); refine @wpList_of_cell _ _ _ _ _ _ _ _ _ _ 24 (.tmp 25) rfl O 1 b2 3 rfl _ _ rfl (.int .i64 pt) c4.out _ Tryz.underlying24 rfl rfl ?_) | ((with_reducible refine @wpList_at _ _ _ _ _ _ _ (.load 24 (.tmp 27)) rfl ?_); refine @wpList_of_cell _ _ _ _ _ _ _ _ _ _ 24 (.tmp 27) rfl O 0 b3 3 rfl _ _ rfl (.int .i64 qt) c5.out _ Tryz.underlying24 rfl rfl ?_))
    go_ret
    exact ⟨rfl, O.tch.grown (fun _ h => h.elim)⟩
set_option maxHeartbeats 2000000 in
theorem signed13_ok (v : VoteD) (w : World) (hv : v.wf) :
    Calls Tryz.prog 17 #[.agg v.cells.toArray] w fun e w' => e = .returned (.bool (signedB v)) ∧ w.grownBy w' none := by
  have Hv := Lib.hid hv
  clear hv
  go_enter Tryz.func17, Tryz.ntmps17
  go_wp2_with (first | (refine wpList_box_as rfl 40 _ rfl v.cells rfl ?_))
  intro w1 b1 g1 s1
  obtain ⟨b, hb⟩ : ∃ b, w.heap.size = b := ⟨_, rfl⟩
  rw [hb] at b1 ⊢
  have B1 := Lib.hid b1; have G1 := Lib.hid g1
  clear b1 g1 s1 hb
  go_wp2_with (refine wpList_load_part rfl 40 _ rfl b 0 rfl v.cells _ B1.out.row Tryz.underlying40 rfl (v.size Hv.out) ?_)
  cases h : okVote v with
  | false =>
    have S := SignBytes_no v w1 Hv.out h
    have E := Lib.hid (show signedB v = false by unfold signedB; rw [h]; rfl)
    have HS := Lib.hid S
    clear S h
    refine HS.out.mono ?_
    rintro e w2 ⟨rfl, g2⟩
    have G2 := Lib.hid (Lib.grownBy_trans G1.out (below_grown g2))
    clear g2
    go_wp2_with fail
    go_ret
    rw [E.out]
    exact ⟨rfl, G2.out⟩
  | true =>
    obtain ⟨kn, hkn⟩ : ∃ n, v.key.toNat = n := ⟨_, rfl⟩
    obtain ⟨rn, hrn⟩ : ∃ n, v.r.toNat = n := ⟨_, rfl⟩
    obtain ⟨sn, hsn⟩ : ∃ n, v.s.toNat = n := ⟨_, rfl⟩
    have L1 := Lib.hid (hkn ▸ (u64_nat Hv.out.key).2); have L2 := Lib.hid (hrn ▸ (u64_nat Hv.out.r).2); have L3 := Lib.hid (hsn ▸ (u64_nat Hv.out.s).2)
    have VK := Lib.hid (vote_key v Hv.out); have VS := Lib.hid (vote_sig v Hv.out)
    rw [hkn] at VK; rw [hrn, hsn] at VS
    have S := SignBytes_yes v w1 Hv.out h
    obtain ⟨m, hm⟩ : ∃ m, encVote v.bare = m := ⟨_, rfl⟩
    have E := Lib.hid (show signedB v = vfyL kn m rn sn by unfold signedB; rw [h, hkn, hrn, hsn, hm]; rfl)
    have HL := Lib.hid (bare_len v h Hv.out)
    rw [hm] at HL S
    have HS := Lib.hid S
    clear S h hkn hrn hsn hm
    refine HS.out.mono ?_
    rintro e w2 ⟨a, n, c, rfl, o2, g2⟩
    have R2 := Lib.hid o2.rd; have B2 := Lib.hid (B1.out.grown (below_grown g2) (by simp)); have G2 := Lib.hid (Lib.grownBy_trans G1.out (below_grown g2))
    have q1 : w2.cell? ⟨b, 36, none⟩ = some (.int .u64 (kn : Int)) := by have := B2.out.row 36 _ VK.out; rwa [Nat.zero_add] at this
    have r1 := Lib.hid (part_of (k := 37) (n := 2) B2.out.row VS.out)
    clear o2 g2 B1 G1
    go_wp2_with (refine wpList_load_part rfl 38 _ rfl b 37 rfl (sigC rn sn) _ r1.out Tryz.underlying38 rfl (sizeSigN _ _) ?_)
    refine (RVerify_ok kn rn sn m _ w2 L1.out L2.out L3.out R2.out (by have := HL.out; omega)).mono ?_
    rintro e w3 ⟨rfl, g3⟩
    rw [← E.out]
    have G3 := Lib.hid (Lib.grownBy_trans G2.out g3)
    clear g3 q1
    go_wp2_with fail
    go_ret
    exact ⟨rfl, G3.out⟩


section
variable {P : Program}
theorem yields_neq {ops : Array Oper} {F : World → Prop} {o : Oper} {a : Act} (hgd : Region.wanted o (yielded ops a.tmps) = true) (t u : TypeId) (x y : Operand) (ho : o.op = .binOp .neq t x y u)
    (xs ys ks : List Value) (hx : a.eval x = .agg xs.toArray) (hy : a.eval y = .agg ys.toArray) (h : flat P 20 t = some ks) (fx : Fits ks xs = true) (fy : Fits ks ys = true)
    (hd : (P.underlying t).map (fun d => match d with | .struct _ | .array _ _ => true | _ => false) = some true) (hm : P.eqGuardType P.depth t = false)
    (b : Bool) (hb : (!VEq xs ys) = b) : YieldsIf P ops F o (.bool b) a := by
  refine Or.inl ⟨hgd, fun W _ => ?_⟩
  unfold execOp
  simp only [ho, hx, hy, Sem.run_bind, Sem.run_pure, Result.andThen_ok, run_eqGuard_agg W .neq t x y xs.toArray ys.toArray hm, (run_eql_flat h xs ys W fx fy hd).2, hb]
end
theorem veq_vote {v : VoteD} (h : v.wf) : VEq v.cells v.cells = true := (VoteD.eq_iff v v h h).2 rfl
set_option maxHeartbeats 4000000 in
theorem SameVotes_same {va vb : Value} {l : List VoteD} {w0 : World} (ha : SRow w0 40 39 va l.length (votesCells l)) (hb : SRow w0 40 39 vb l.length (votesCells l)) (hw : ∀ u ∈ l, u.wf) :
    Calls Tryz.prog 15 #[va, vb] w0 fun e w' => e = .returned (.bool true) ∧ w0.grownBy w' none := by
  obtain ⟨aa, ca, hva, _, hcm⟩ := ha.shape
  obtain ⟨ab, cb, hvb, _⟩ := hb.shape
  have HA := Lib.hid (fun k hk => votes_at ha hw k hk); have HB := Lib.hid (fun k hk => votes_at hb hw k hk)
  have HW := Lib.hid hw
  have HLE := Lib.hid (show l.length ≤ maxLen from Nat.le_trans (by assumption) hcm)
  have hrf : w0.grownBy w0 none := World.grownBy.refl _ _
  subst hva hvb
  clear ha hb hw hcm
  go_enter Tryz.func15, Tryz.ntmps15
  go_wp2_with fail
  go_loopw [5] (fun i wr => ∃ k : Nat, k ≤ l.length ∧ i = .int .i64 (k : Int) ∧ w0.grownBy wr none) (fun i _ => l.length - (intOf i).toNat)
  case atStart => exact ⟨0, Nat.zero_le _, rfl, hrf⟩
  case round =>
    obtain ⟨k, hk, rfl, hg⟩ := hrel
    have HG := Lib.hid hg
    clear hg hrf
    by_cases hlt : k < l.length
    · obtain ⟨g1, o1, c1, e1, _, _, r1⟩ := HA.out k hlt
      obtain ⟨g2, o2, c2, e2, _, _, r2⟩ := HB.out k hlt
      obtain ⟨rfl, rfl⟩ : aa = some ⟨g1, o1, none⟩ ∧ ca = c1 := by injection e1 with h1 _ h2; exact ⟨h1, h2⟩
      obtain ⟨rfl, rfl⟩ : ab = some ⟨g2, o2, none⟩ ∧ cb = c2 := by injection e2 with h1 _ h2; exact ⟨h1, h2⟩
      have HX := Lib.hid (HW.out _ (List.getElem_mem hlt))
      obtain ⟨x, hx⟩ : ∃ x, l[k] = x := ⟨_, rfl⟩
      rw [hx] at r1 r2 HX
      have R1 := Lib.hid r1; have R2 := Lib.hid r2
      have HEQ := Lib.hid (show (!VEq x.cells x.cells) = false by rw [veq_vote HX.out]; rfl)
      have hix : ¬ ((l.length : Int) ≤ (k : Int)) := by omega
      have hc1 := HLE.out
      unfold maxLen at hc1
      have ew := IntWalk.i64_in ((k : Int) + 1) (by omega)
      clear e1 e2 r1 r2 hx hk hc1
      go_upto_region 6 with fail
      have gd := dr1s wr
      have GD := Lib.hid (Lib.grownBy_trans HG.out gd)
      clear gd
      refine wp_region_J (rdf [(3, g1, (o1 + k * 39), x.cells), (7, g2, (o2 + k * 39), x.cells)]) [] (by kernel_rfl) (RdA.cons (R1.out.grown GD.out (by simp)) (RdA.cons (R2.out.grown GD.out (by simp)) RdA.nil)) (fun hH => ?_)
      refine jp 0 ((.slice (some ⟨g1, o1, none⟩) l.length ca)) (Still.all hH) ?_
      simp only [Act.put, jq1, jq3, jq4, jq5, jq6]
      refine jp 1 ((.int .i64 (k : Int))) (Still.all hH) ?_
      simp only [Act.put, jq1, jq2, jq3, jq4, jq5, jq6]
      refine jp 2 ((.pointer (some ⟨g1, o1 + k * 39, none⟩))) (Still.all hH) ?_
      simp only [Act.put, jq1, jq2, jq3, jq4, jq5, jq6]
      refine jr 0 3 ((.agg (x.cells).toArray)) rfl rfl (yieldsIf_load_mid (by rfl) 40 _ rfl g1 (o1 + k * 39) rfl x.cells _ (fun W h => h) Tryz.underlying40 rfl (x.size HX.out)) (Still.all hH) ?_
      simp only [Act.put, jq1, jq2, jq3, jq4, jq5, jq6]
      refine jp 4 ((.slice (some ⟨g2, o2, none⟩) l.length cb)) (Still.all hH) ?_
      simp only [Act.put, jq1, jq2, jq3, jq4, jq5, jq6]
      refine jp 5 ((.int .i64 (k : Int))) (Still.all hH) ?_
      simp only [Act.put, jq1, jq2, jq3, jq4, jq5, jq6]
      refine jp 6 ((.pointer (some ⟨g2, o2 + k * 39, none⟩))) (Still.all hH) ?_
      simp only [Act.put, jq1, jq2, jq3, jq4, jq5, jq6]
      refine jr 1 7 ((.agg (x.cells).toArray)) rfl rfl (yieldsIf_load_mid (by rfl) 40 _ rfl g2 (o2 + k * 39) rfl x.cells _ (fun W h => h) Tryz.underlying40 rfl (x.size HX.out)) (Still.all hH) ?_
      simp only [Act.put, jq1, jq2, jq3, jq4, jq5, jq6]
      refine jp 8 ((.bool false)) (Still.all hH) ?_ (hy := yields_neq (by rfl) 40 40 _ _ rfl x.cells x.cells voteK rfl rfl vote_flat (x.fits HX.out) (x.fits HX.out) (by kernel_rfl) (by kernel_rfl) _ HEQ.out)
      simp only [Act.put, jq1, jq2, jq3, jq4, jq5, jq6]
      refine wpAnyJ_done (by kernel_rfl) ?_ _
      clear hH
      go_wp2_with fail
      exact ⟨⟨k + 1, by omega, by go_num, GD.out⟩, by simp [intOf]; omega⟩
    · obtain rfl : k = l.length := by omega
      go_wp2_with fail
      go_ret
      exact ⟨rfl, HG.out⟩
theorem zV_eq : VEq zeroV.cells ZVote = true := by rw [← zeroV_cells]; exact veq_vote zeroV_wf
theorem ZV_fits : Fits voteK ZVote = true := by rw [← zeroV_cells]; exact VoteD.fits _ zeroV_wf
set_option maxHeartbeats 4000000 in
theorem SignerNil_any (a : AskD) (ha : a.wf) (w0 : World) (hR : RowAt w0 3 0 (wCells rootsL)) :
    Calls Tryz.prog 4 #[.agg a.cells.toArray] w0 fun e w' => e = .returned (.bool true) ∧ w0.grownBy w' none := by
  have O := OwF.start (fun _ => False) w0
  have HA := Lib.hid ha; have HR := Lib.hid hR
  have CS := Lib.hid (fun w => sSign_nil a.h a.r a.t a.block ha.block w)
  have CO := Lib.hid (fun w => show Calls Tryz.prog 9 #[.pointer none, .int .u64 5, .string ⟨#[97]⟩] w _ from sgOpen_nil 5 (by unfold keyOk pQ; decide) chA (by decide) (by decide) w)
  have CA := Lib.hid (fun w (g : w0.grownBy w none) => alive13_ok w (hR.grown g (by simp)))
  clear ha hR
  go_enter Tryz.func4, Tryz.ntmps4
  go_wp2_with (first | ((with_reducible refine @wpList_at _ _ _ _ _ _ _ (.box 29 (.tmp 0)) rfl ?_); refine @wpList_of_box _ _ _ _ _ _ _ _ _ _ 29 (.tmp 0) rfl a.cells rfl O rfl ?_; clear O; intro b1 w O) | ((with_reducible refine @wpList_at _ _ _ _ _ _ _ (.load 3 (.tmp 10)) rfl ?_); refine @wpList_of_cell _ _ _ _ _ _ _ _ _ _ 3 (.tmp 10) rfl O 0 b1 1 rfl _ _ rfl (.int .i64 a.h) rfl _ Tryz.underlying3 rfl rfl ?_) | ((with_reducible refine @wpList_at _ _ _ _ _ _ _ (.load 3 (.tmp 12)) rfl ?_); refine @wpList_of_cell _ _ _ _ _ _ _ _ _ _ 3 (.tmp 12) rfl O 0 b1 2 rfl _ _ rfl (.int .i64 a.r) rfl _ Tryz.underlying3 rfl rfl ?_) | ((with_reducible refine @wpList_at _ _ _ _ _ _ _ (.load 24 (.tmp 14)) rfl ?_); refine @wpList_of_cell _ _ _ _ _ _ _ _ _ _ 24 (.tmp 14) rfl O 0 b1 3 rfl _ _ rfl (.int .i64 a.t) rfl _ Tryz.underlying24 rfl rfl ?_) | ((with_reducible refine @wpList_at _ _ _ _ _ _ _ (.load 26 (.tmp 16)) rfl ?_); refine @wpList_of_part _ _ _ _ _ _ _ _ _ _ 26 (.tmp 16) rfl O 0 b1 4 rfl _ _ rfl (Lib.byteCells a.block) _ (fun h => (by have := AskD.blockRow h HA.out; rwa [Nat.zero_add] at this)) Tryz.underlying26 rfl (sizeH _ (by rw [Lib.byteCells_length, HA.out.block])) rfl ?_))
  refine (CS.out w).mono ?_
  rintro e w2 ⟨rfl, g⟩
  replace O := O.call g
  clear g
  go_wp2_with (first | ((with_reducible refine @wpList_at _ _ _ _ _ _ _ (.alloc 40) rfl ?_); refine @wpList_of_alloc _ _ _ _ _ _ _ _ _ _ 40 rfl ZVote ZVote_info O rfl ?_; clear O; intro b4 w O) | ((with_reducible refine @wpList_at _ _ _ _ _ _ _ (.store 40 (.tmp 4) (.tmp 19)) rfl ?_); refine @wpList_of_store _ _ _ _ _ _ _ _ _ _ 40 (.tmp 4) (.tmp 19) rfl O 0 b4 rfl zeroV.cells ZVote _ rfl rfl rfl (VoteD_one _) (sizeVote _ ZVote_length) rfl ?_; clear O; intro w O; simp only [List.set_cons_zero] at O))
  refine (CO.out w).mono ?_
  rintro e w3 ⟨rfl, g⟩
  replace O := O.call g
  clear g
  go_wp2_with fail
  refine (CA.out w3 (O.tch.grown (fun _ h => h.elim))).mono ?_
  rintro e w4 ⟨rfl, g⟩
  replace O := O.call g
  clear g
  go_wp2_with (first | ((with_reducible refine @wpList_at _ _ _ _ _ _ _ (.load 40 (.tmp 4)) rfl ?_); refine @wpList_of_whole _ _ _ _ _ _ _ _ _ _ 40 (.tmp 4) rfl O 0 b4 rfl zeroV.cells _ rfl _ Tryz.underlying40 rfl (sizeVote _ ZVote_length) rfl ?_) | ((with_reducible refine @wpList_at _ _ _ _ _ _ _ (.build 40 #[]) rfl ?_); refine wpList_build_eq rfl 40 _ rfl [] (by kernel_rfl) ZVote bVote0 ?_) | ((with_reducible refine @wpList_at _ _ _ _ _ _ _ (.binOp .eql 40 (.tmp 27) (.tmp 28) 40) rfl ?_); refine wpList_eql_flat rfl 40 40 _ _ rfl zeroV.cells ZVote voteK rfl rfl vote_flat (VoteD.fits _ zeroV_wf) ZV_fits (by kernel_rfl) (by kernel_rfl) ?_; rw [zV_eq]))
  refine (skey_nil w4).mono ?_
  rintro e w5 ⟨rfl, rfl⟩
  go_wp2_with fail
  refine (sVotes_nil w5).mono ?_
  rintro e w6 ⟨rfl, rfl⟩
  go_wp2_with fail
  go_ret
  exact ⟨rfl, O.tch.grown (fun _ h => h.elim)⟩
/-! a signer that is kept -/
def Good (x : Nat) (c : ByteArray) (vs : List VoteD) : Prop :=
  (∀ u ∈ vs, u.wf ∧ signedB u = true ∧ u.key = ((pw 37 x : Nat) : Int) ∧ u.chain = c) ∧ ∀ i (h : i + 1 < vs.length), aheadB (vs[i]).pl (vs[i + 1]).pl = true
theorem Good.nil (x : Nat) (c : ByteArray) : Good x c [] := ⟨fun _ h => by (cases h), fun i h => by simp at h⟩
theorem Good.snoc {x : Nat} {c : ByteArray} {vs : List VoteD} {u : VoteD} (h : Good x c vs) (hu : u.wf ∧ signedB u = true ∧ u.key = ((pw 37 x : Nat) : Int) ∧ u.chain = c) (ha : vs.length = 0 ∨ aheadB (lastP vs) u.pl = true) : Good x c (vs ++ [u]) := by
  refine ⟨fun v hv => ?_, fun i hi => ?_⟩
  · rcases List.mem_append.1 hv with hv | hv
    · exact h.1 v hv
    · obtain rfl := List.mem_singleton.1 hv; exact hu
  · rw [List.length_append, List.length_singleton] at hi
    by_cases h1 : i + 1 < vs.length
    · rw [List.getElem_append_left (by omega), List.getElem_append_left h1]
      exact h.2 i h1
    · have h2 : i + 1 = vs.length := by omega
      rw [List.getElem_append_left (by omega), List.getElem_append_right (by omega)]
      have h3 : vs[i]'(by omega) = lastV vs := lastV_at (by omega)
      rw [h3]
      rcases ha with h0 | h0
      · omega
      · unfold lastP at h0; simpa [h2] using h0
/-- what is said, where no record is bad -/
def noP (x : Nat) (vs : List VoteD) (v : VoteD) : Option (VoteD × Int) :=
  if vs.length ≠ 0 ∧ aheadB (lastP vs) v.pl = false then some (if lastP vs = v.pl ∧ (lastV vs).block = v.block then (lastV vs, 0) else (zeroV, 131))
  else if (signL x v).2 ≠ 0 then some (zeroV, (signL x v).2) else none
/-- a signing, plainly -/
def SignRes (x : Nat) (vs : List VoteD) (v : VoteD) (e : Ending) (vs' : List VoteD) : Prop :=
  (∃ p, noP x vs v = some p ∧ e = .returned (.tuple #[.agg p.1.cells.toArray, .int .i64 p.2]) ∧ vs' = vs) ∨
  (noP x vs v = none ∧ e = .returned (.tuple #[.agg (signL x v).1.cells.toArray, .int .i64 0]) ∧ vs' = vs ++ [(signL x v).1])
structure Live (w0 w : World) (s x : Nat) (c : ByteArray) (z : SgP) (n : Nat) : Prop where
  rep : SgRep w z
  hs : z.s = s
  sec : z.secret = x
  ch : z.chain = c
  bad : z.bad = false
  grown : w0.grownBy w none
  foot : ∀ k, z.foot k → w0.heap.size ≤ k
  good : Good x c z.vs
  room : z.y.room n
  len : z.vs.length + n ≤ 1000
theorem Live.up {w0 w w' : World} {s x n : Nat} {c : ByteArray} {z : SgP} (h : Live w0 w s x c z n) (g : w.grownBy w' none) : Live w0 w' s x c z n :=
  ⟨h.rep.grown g, h.hs, h.sec, h.ch, h.bad, Lib.grownBy_trans h.grown g, h.foot, h.good, h.room, h.len⟩
theorem signL_good (x : Nat) (v : VoteD) (hv : v.wf) (_hx : x < 18446744073709551616) (h0 : (signL x v).2 = 0) : (signL x v).1.wf ∧ signedB (signL x v).1 = true ∧ (signL x v).1.key = ((pw 37 x : Nat) : Int) ∧ (signL x v).1.chain = v.chain ∧ (signL x v).1.pl = v.pl ∧ (signL x v).1.block = v.block := by
  obtain ⟨h1, h2, h3⟩ := signL_ok x v hv h0
  rw [h3]
  refine ⟨by_wf _ hv _ _ _ (Nat.lt_trans (pw_lt _ _) (by unfold pP; decide)) (Nat.lt_trans (pw_lt _ _) (by unfold pP; decide)) (sgS_u64 _ _), signed_sign x v h2 h1, rfl, rfl, rfl, rfl⟩
theorem room_less {y : LgP} {n : Nat} (h : y.room (n + 1)) : y.room n := by unfold LgP.room at *; omega
theorem room_one {y : LgP} {n : Nat} (h : y.room (n + 1)) : y.room 1 := by
  obtain ⟨h1, h2, h3⟩ := h
  refine ⟨?_, ?_, ?_⟩
  · show y.x.B.length + 1100 ≤ 1048576
    omega
  · show y.x.ns + 2 ≤ 100000
    omega
  · omega
theorem room_step {y Y : LgP} {n l : Nat} (h : y.room (n + 1)) (hB : Y.x.B.length = y.x.B.length + (l + 6)) (hl : l ≤ 1000) (h1 : Y.x.ns = y.x.ns + 1 + 1 ∧ Y.nr = y.nr + 1) : Y.room n := by
  unfold LgP.room at *
  rw [hB, h1.1, h1.2]
  omega
set_option maxHeartbeats 1000000 in
theorem live_sign {w0 w : World} {s x n : Nat} {c : ByteArray} {z : SgP} (L : Live w0 w s x c z (n + 1)) (hx rx tx : Int) (b : List UInt8) (hh : i64R hx) (hr : i64R rx) (ht : i64R tx) (hb : b.length = 32) (hR : RowAt w0 3 0 (wCells rootsL)) :
    Calls Tryz.prog 11 #[.pointer (some ⟨s, 0, none⟩), .int .i64 hx, .int .i64 rx, .int .i64 tx, .agg (Lib.byteCells b).toArray] w fun e w' => ∃ z', Live w0 w' s x c z' n ∧ SignRes x z.vs (voteOf c hx rx tx b) e z'.vs := by
  have h1 : z.y.room 1 := room_one L.room
  have hle : z.vs.length ≤ 100000 := Nat.le_trans (Nat.le_add_right _ (n + 1)) (Nat.le_trans L.len (by decide))
  have hC := sSign_ok z L.rep hx rx tx b hh hr ht hb (hR.grown L.grown (by simp)) h1 hle
  unfold SigArgs at hC
  rw [L.hs, L.ch] at hC
  have hno : signNo z (voteOf c hx rx tx b) = noP x z.vs (voteOf c hx rx tx b) := by unfold signNo noP; rw [L.bad, L.sec, if_neg (c := false = true) (by simp)]
  refine hC.mono ?_
  rintro e w' (⟨p, hp, he, g⟩ | ⟨hp, he, hn⟩)
  · refine ⟨z, ⟨L.rep.grown g, L.hs, L.sec, L.ch, L.bad, Lib.grownBy_trans L.grown g, L.foot, L.good, room_less L.room, Nat.le_trans (Nat.add_le_add_left (Nat.le_succ n) _) L.len⟩, .inl ⟨p, hno ▸ hp, he, rfl⟩⟩
  · obtain ⟨bv, sv, rv, rw1, sv2, vv, hz, t, hf⟩ := hn
    rw [L.sec] at he hz hf
    have h0 : (signL x (voteOf c hx rx tx b)).2 = 0 := by
      rw [hno] at hp
      unfold noP at hp
      split at hp
      · cases hp
      · split at hp
        · cases hp
        · rename_i h2; simpa using h2
    have hvw : (voteOf c hx rx tx b).wf := voteOf_wf (L.ch ▸ L.rep.name) hh hr ht hb
    have hg := signL_good x _ hvw (L.sec ▸ signL_key L.rep) h0
    have hok := signL_ok x _ hvw h0
    have hel : (encVote (signL x (voteOf c hx rx tx b)).1).length ≤ 1000 := encVote_len _ hg.1 (by rw [hok.2.2]; exact hok.1)
    have hah : z.vs.length = 0 ∨ aheadB (lastP z.vs) (signL x (voteOf c hx rx tx b)).1.pl = true := by
      rw [hg.2.2.2.2.1]
      by_cases hz0 : z.vs.length = 0
      · exact .inl hz0
      · right
        rw [hno] at hp
        unfold noP at hp
        cases hq : aheadB (lastP z.vs) (voteOf c hx rx tx b).pl with
        | true => rfl
        | false => rw [if_pos ⟨hz0, hq⟩] at hp; cases hp
    have hB : ((z.y.next bv (encVote (signL x (voteOf c hx rx tx b)).1) sv rv rw1).synced sv2).x.B.length = z.y.x.B.length + ((encVote (signL x (voteOf c hx rx tx b)).1).length + 6) := by
      show (z.y.x.B ++ frameL _).length = _
      rw [List.length_append, frameL_len]
    obtain ⟨Y, hY⟩ : ∃ Y, (z.y.next bv (encVote (signL x (voteOf c hx rx tx b)).1) sv rv rw1).synced sv2 = Y := ⟨_, rfl⟩
    have hYn : Y.x.ns = z.y.x.ns + 1 + 1 ∧ Y.nr = z.y.nr + 1 := by rw [← hY]; exact ⟨rfl, rfl⟩
    rw [hY] at hz hf hB
    obtain ⟨Z, hZ⟩ : ∃ Z : SgP, { z with y := Y, secret := x, vv := vv, vs := z.vs ++ [(signL x (voteOf c hx rx tx b)).1] } = Z := ⟨_, rfl⟩
    rw [hZ] at hz hf
    have hZs : Z.s = z.s ∧ Z.secret = x ∧ Z.chain = z.chain ∧ Z.bad = z.bad ∧ Z.y = Y ∧ Z.vs = z.vs ++ [(signL x (voteOf c hx rx tx b)).1] := by rw [← hZ]; exact ⟨rfl, rfl, rfl, rfl, rfl, rfl⟩
    clear hZ hY
    refine ⟨Z, ⟨hz, hZs.1.trans L.hs, hZs.2.1, hZs.2.2.1.trans L.ch, hZs.2.2.2.1.trans L.bad, ((Tch.of_grown (F := z.foot) L.grown).trans t (fun _ h _ => h)).grown L.foot, fun k hk => ?_, hZs.2.2.2.2.2 ▸ L.good.snoc ⟨hg.1, hg.2.1, hg.2.2.1, hg.2.2.2.1⟩ hah, ?_, ?_⟩, .inr ⟨hno ▸ hp, he, hZs.2.2.2.2.2⟩⟩
    · rcases hf k hk with h | h
      · exact L.foot k h
      · exact Nat.le_trans L.grown.size h
    · rw [hZs.2.2.2.2.1]
      exact room_step L.room hB hel hYn
    · rw [hZs.2.2.2.2.2, List.length_append, List.length_singleton]
      exact Nat.le_trans (Nat.le_of_eq (by rw [Nat.add_assoc, Nat.add_comm 1 n])) L.len
theorem live_new {w0 w1 w : World} {b s l x : Nat} {sv : Value} {c : ByteArray} (hg : w0.grownBy w none) (hz : SgRep w ⟨s, .new b l sv, x, pw 37 x, c, .slice none 0 0, [], false⟩) (hf : ∀ k, (⟨s, .new b l sv, x, pw 37 x, c, .slice none 0 0, [], false⟩ : SgP).foot k → k = b ∨ w1.heap.size ≤ k) (hb : w0.heap.size ≤ b) (h1 : w0.heap.size ≤ w1.heap.size) :
    Live w0 w s x c ⟨s, .new b l sv, x, pw 37 x, c, .slice none 0 0, [], false⟩ 40 :=
  ⟨hz, rfl, rfl, rfl, rfl, hg, fun k hk => (hf k hk).elim (fun e => e ▸ hb) (fun h => Nat.le_trans h1 h), Good.nil x c, room_new b l sv, by simp⟩

end Go.Proofs.YtcbkehnlgpcelaaGreatDoor
