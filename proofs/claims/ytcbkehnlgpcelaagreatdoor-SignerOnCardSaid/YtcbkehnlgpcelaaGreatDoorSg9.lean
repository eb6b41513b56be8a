/- Walks: a signer on a new tape; no signer, no tape; nunciolaw13.alive, SignerNil. -/
import Derived.Test.YtcbkehnlgpcelaaGreatDoorSg8
import Derived.Test.YtcbkehnlgpcelaaGreatDoorEncode
namespace Go.Proofs.YtcbkehnlgpcelaaGreatDoor
open Go.RowKit
set_option maxRecDepth 100000

/-- a signing, all ways -/
def SignDone (w0 : World) (z : SgP) (v : VoteD) (e : Ending) (w' : World) : Prop :=
  (∃ p, signNo z v = some p ∧ e = .returned (.tuple #[.agg p.1.cells.toArray, .int .i64 p.2]) ∧ w0.grownBy w' none) ∨
  (signNo z v = none ∧ e = .returned (.tuple #[.agg (signL z.secret v).1.cells.toArray, .int .i64 0]) ∧ SignNew w0 z (signL z.secret v).1 w')
theorem sSign_ok {w0 : World} (z : SgP) (h : SgRep w0 z) (hx rx tx : Int) (b : List UInt8) (hh : i64R hx) (hr : i64R rx) (ht : i64R tx) (hb : b.length = 32) (hR : RowAt w0 3 0 (wCells rootsL)) (hroom : z.y.room 1) (hlen : z.vs.length ≤ 100000) :
    Calls Tryz.prog 11 (SigArgs z hx rx tx b) w0 (SignDone w0 z (voteOf z.chain hx rx tx b)) := by
  by_cases hn : z.vs.length = 0
  · cases hbad : z.bad with
    | true =>
      exact (sSign_bad0 z h hx rx tx b hh hr ht hb hn hbad).mono fun e w' hp => .inl ⟨(zeroV, 131), by unfold signNo; rw [if_neg (by simp [hn]), hbad]; rfl, hp⟩
    | false =>
      by_cases he : (signL z.secret (voteOf z.chain hx rx tx b)).2 = 0
      · exact (sSign_new0 z h hx rx tx b hh hr ht hb hn hbad hR hroom he hlen).mono fun e w' hp => .inr ⟨by unfold signNo; rw [if_neg (by simp [hn]), hbad, if_neg (by simp), if_neg (by simp [he])], hp⟩
      · exact (sSign_err0 z h hx rx tx b hh hr ht hb hn hbad hR he).mono fun e w' hp => .inl ⟨(zeroV, _), by unfold signNo; rw [if_neg (by simp [hn]), hbad, if_neg (by simp), if_pos he], hp⟩
  · cases ha : aheadB (lastP z.vs) (voteOf z.chain hx rx tx b).pl with
    | false =>
      by_cases hp : lastP z.vs = (voteOf z.chain hx rx tx b).pl
      · by_cases hbk : (lastV z.vs).block = b
        · exact (sSign_again z h hx rx tx b hh hr ht hb hn ha hp hbk).mono fun e w' hq => .inl ⟨(lastV z.vs, 0), by unfold signNo; rw [if_pos ⟨hn, ha⟩, if_pos ⟨hp, hbk⟩], hq⟩
        · exact (sSign_blk z h hx rx tx b hh hr ht hb hn ha hp hbk).mono fun e w' hq => .inl ⟨(zeroV, 131), by unfold signNo; rw [if_pos ⟨hn, ha⟩, if_neg (fun h => hbk h.2)], hq⟩
      · exact (sSign_dif z h hx rx tx b hh hr ht hb hn ha hp).mono fun e w' hq => .inl ⟨(zeroV, 131), by unfold signNo; rw [if_pos ⟨hn, ha⟩, if_neg (fun h => hp h.1)], hq⟩
    | true =>
      have hc : ¬ (z.vs.length ≠ 0 ∧ aheadB (lastP z.vs) (voteOf z.chain hx rx tx b).pl = false) := fun h => by rw [ha] at h; cases h.2
      cases hbad : z.bad with
      | true => exact (sSign_bada z h hx rx tx b hh hr ht hb hn ha hbad).mono fun e w' hp => .inl ⟨(zeroV, 131), by unfold signNo; rw [if_neg hc, hbad]; rfl, hp⟩
      | false =>
        by_cases he : (signL z.secret (voteOf z.chain hx rx tx b)).2 = 0
        · exact (sSign_newa z h hx rx tx b hh hr ht hb hn ha hbad hR hroom he hlen).mono fun e w' hp => .inr ⟨by unfold signNo; rw [if_neg hc, hbad, if_neg (by simp), if_neg (by simp [he])], hp⟩
        · exact (sSign_erra z h hx rx tx b hh hr ht hb hn ha hbad hR he).mono fun e w' hp => .inl ⟨(zeroV, _), by unfold signNo; rw [if_neg hc, hbad, if_neg (by simp), if_pos he], hp⟩
/-! of no signer -/
theorem sSign_nil (hx rx tx : Int) (b : List UInt8) (hb : b.length = 32) (w0 : World) : Calls Tryz.prog 11 #[.pointer none, .int .i64 hx, .int .i64 rx, .int .i64 tx, .agg (Lib.byteCells b).toArray] w0 fun e w' => e = .returned (.tuple #[.agg zeroV.cells.toArray, .int .i64 1]) ∧ w0.grownBy w' none := by
  have HBL := Lib.hid hb
  have O := OwF.start (fun _ => False) w0
  clear hb
  go_enter Tryz.func11, Tryz.ntmps11
  go_wp2_with (first | ((with_reducible refine @wpList_at _ _ _ _ _ _ _ (.box 26 (.tmp 4)) rfl ?_); refine @wpList_of_box _ _ _ _ _ _ _ _ _ _ 26 (.tmp 4) rfl (Lib.byteCells b) rfl O rfl ?_; clear O; intro b9 w O) | ((with_reducible refine @wpList_at _ _ _ _ _ _ _ (.alloc 40) rfl ?_); refine @wpList_of_alloc _ _ _ _ _ _ _ _ _ _ 40 rfl ZVote ZVote_info O rfl ?_; clear O; intro b10 w O) | ((with_reducible refine @wpList_at _ _ _ _ _ _ _ (.build 40 #[]) rfl ?_); refine wpList_build_eq rfl 40 _ rfl [] (by kernel_rfl) ZVote bVote0 ?_) | ((with_reducible refine @wpList_at _ _ _ _ _ _ _ (.store 40 (.tmp 10) (.tmp 18)) rfl ?_); refine @wpList_of_store _ _ _ _ _ _ _ _ _ _ 40 (.tmp 10) (.tmp 18) rfl O 0 b10 rfl ZVote ZVote _ rfl rfl rfl ZVote_one (sizeVote _ ZVote_length) rfl ?_; clear O; intro w O; simp only [List.set_cons_zero] at O))
  refine bodyPost_ret (results_cell_tmp rfl _ _ ⟨b10, 0, none⟩ _ _ rfl rfl (run_loadVar_part _ _ _ 40 ZVote _ (O.row_of (g := b10) (T := 40) (by simp)) Tryz.underlying40 rfl (sizeVote _ ZVote_length))) rfl ?_
  exact ⟨rfl, O.tch.grown (fun _ h => h.elim)⟩
theorem skey_nil (w0 : World) : Calls Tryz.prog 16 #[.pointer none] w0 fun e w' => e = .returned (.int .u64 0) ∧ w' = w0 := by
  go_enter Tryz.func16, Tryz.ntmps16
  go_wp2_with fail
  go_ret
  exact ⟨rfl, rfl⟩
theorem sVotes_nil (w0 : World) : Calls Tryz.prog 12 #[.pointer none] w0 fun e w' => e = .returned (.slice none 0 0) ∧ w' = w0 := by
  go_enter Tryz.func12, Tryz.ntmps12
  go_wp2_with fail
  go_ret
  exact ⟨rfl, rfl⟩
theorem lgOpen_nil (w0 : World) : Calls Tryz.prog 30 #[.pointer none] w0 fun e w' => e = .returned (.tuple #[.pointer none, .int .i64 1]) ∧ w' = w0 := by
  go_enter Tryz.func30, Tryz.ntmps30
  go_wp2_with fail
  go_ret2
  exact ⟨rfl, rfl⟩
/-! open -/
def hdr1 (c : ByteArray) : HeaderD := ⟨c, 1, 0, List.replicate 32 0, List.replicate 32 0, List.replicate 32 0, List.replicate 32 0, List.replicate 32 0⟩
theorem bHdr1 (c : ByteArray) : Tryz.prog.built 78 [(0, .string c), (1, .int .i64 1)] = some (hdr1 c).cells.toArray := by kernel_rfl
theorem hdr1_wf {c : ByteArray} (hc : c.size ≤ maxLen) : (hdr1 c).wf := ⟨hc, by unfold i64R; simp [hdr1], by unfold i64R; simp [hdr1], rfl, rfl, rfl, rfl, rfl⟩
theorem okHdr1 (c : ByteArray) : okHeader (hdr1 c) = nameL c.data.toList := by
  unfold okHeader hdr1
  show (nameL c.data.toList && (inR 1 1 1099511627776 && inR 0 0 1099511627776)) = _
  rw [show (inR 1 1 1099511627776 && inR 0 0 1099511627776) = true by decide, Bool.and_true]
theorem hdr_yes (c : ByteArray) (hc : c.size ≤ maxLen) (h : nameL c.data.toList = true) (w : World) : Calls Tryz.prog 29 #[.agg (hdr1 c).cells.toArray] w fun e w' => ∃ a n k, e = .returned (.tuple #[.slice a n k, .int .i64 0]) ∧ w.grownBy w' none := by
  refine (EncodeHeader_any (hdr1 c) w (hdr1_wf hc)).mono ?_
  intro e w' hE
  unfold Enc at hE
  rw [okHdr1, if_pos h] at hE
  obtain ⟨a, n, k, he, _, hb⟩ := hE
  exact ⟨a, n, k, he, below_grown hb⟩
theorem hdr_no (c : ByteArray) (hc : c.size ≤ maxLen) (h : nameL c.data.toList = false) (w : World) : Calls Tryz.prog 29 #[.agg (hdr1 c).cells.toArray] w fun e w' => e = .returned (.tuple #[.slice none 0 0, .int .i64 61]) ∧ w.grownBy w' none := by
  refine (EncodeHeader_any (hdr1 c) w (hdr1_wf hc)).mono ?_
  intro e w' hE
  unfold Enc at hE
  rw [okHdr1, if_neg (by rw [h]; simp)] at hE
  exact ⟨hE.1, below_grown hE.2⟩
theorem bSgn (l x k : Nat) (c : ByteArray) : Tryz.prog.built 83 [(0, .pointer (some ⟨l, 0, none⟩)), (1, .int .u64 (x : Int)), (2, .int .u64 (k : Int)), (3, .string c)] = some [.pointer (some ⟨l, 0, none⟩), .int .u64 (x : Int), .int .u64 (k : Int), .string c, .slice none 0 0, .bool false].toArray := by kernel_rfl
theorem sgOpen_key (x : Nat) (h : keyOk x = false) (v : Value) (c : ByteArray) (w0 : World) : Calls Tryz.prog 9 #[v, .int .u64 (x : Int), .string c] w0 fun e w' => e = .returned (.tuple #[.pointer none, .int .i64 41]) ∧ w' = w0 := by
  have C := Lib.hid (Key_no x w0 h)
  clear h
  go_enter Tryz.func9, Tryz.ntmps9
  go_wp2_with fail
  refine C.out.mono ?_
  rintro e w1 ⟨rfl, rfl⟩
  go_wp2_with fail
  go_ret2
  exact ⟨rfl, rfl⟩
theorem sgOpen_name (x : Nat) (h : keyOk x = true) (v : Value) (c : ByteArray) (hc : c.size ≤ maxLen) (hn : nameL c.data.toList = false) (w0 : World) : Calls Tryz.prog 9 #[v, .int .u64 (x : Int), .string c] w0 fun e w' => e = .returned (.tuple #[.pointer none, .int .i64 61]) ∧ w0.grownBy w' none := by
  have C := Lib.hid (Key_yes x w0 h); have D := Lib.hid (hdr_no c hc hn)
  clear h hc hn
  go_enter Tryz.func9, Tryz.ntmps9
  go_wp2_with fail
  refine C.out.mono ?_
  rintro e w1 ⟨rfl, n1, hw1⟩
  have G1 := Lib.hid (show w0.grownBy w1 none from hw1 ▸ drew_grown w0 n1)
  clear hw1
  go_wp2_with (first | ((with_reducible refine @wpList_at _ _ _ _ _ _ _ (.build 78 _) rfl ?_); refine wpList_build_eq rfl 78 _ rfl [(0, .string c), (1, .int .i64 1)] (by kernel_rfl) (hdr1 c).cells (bHdr1 c) ?_))
  refine (D.out w1).mono ?_
  rintro e w2 ⟨rfl, g2⟩
  have G2 := Lib.hid g2
  clear g2
  go_wp2_with fail
  go_ret2
  exact ⟨rfl, Lib.grownBy_trans G1.out G2.out⟩
theorem sgOpen_nil (x : Nat) (h : keyOk x = true) (c : ByteArray) (hc : c.size ≤ maxLen) (hn : nameL c.data.toList = true) (w0 : World) : Calls Tryz.prog 9 #[.pointer none, .int .u64 (x : Int), .string c] w0 fun e w' => e = .returned (.tuple #[.pointer none, .int .i64 1]) ∧ w0.grownBy w' none := by
  have C := Lib.hid (Key_yes x w0 h); have D := Lib.hid (hdr_yes c hc hn)
  clear h hc hn
  go_enter Tryz.func9, Tryz.ntmps9
  go_wp2_with fail
  refine C.out.mono ?_
  rintro e w1 ⟨rfl, n1, hw1⟩
  have G1 := Lib.hid (show w0.grownBy w1 none from hw1 ▸ drew_grown w0 n1)
  clear hw1
  go_wp2_with (first | ((with_reducible refine @wpList_at _ _ _ _ _ _ _ (.build 78 _) rfl ?_); refine wpList_build_eq rfl 78 _ rfl [(0, .string c), (1, .int .i64 1)] (by kernel_rfl) (hdr1 c).cells (bHdr1 c) ?_))
  refine (D.out w1).mono ?_
  rintro e w2 ⟨a, n, k, rfl, g2⟩
  have G2 := Lib.hid g2
  clear g2
  go_wp2_with fail
  refine (lgOpen_nil w2).mono ?_
  rintro e w3 ⟨rfl, rfl⟩
  go_wp2_with fail
  go_ret2
  exact ⟨rfl, Lib.grownBy_trans G1.out G2.out⟩
set_option maxHeartbeats 4000000 in
theorem sgOpen_new {w0 : World} {b : Nat} (h : TpRep w0 (.new b)) (x : Nat) (hk : keyOk x = true) (c : ByteArray) (hn : nameL c.data.toList = true) :
    Calls Tryz.prog 9 #[.pointer (some ⟨b, 0, none⟩), .int .u64 (x : Int), .string c] w0 fun e w' => ∃ s l sv, e = .returned (.tuple #[.pointer (some ⟨s, 0, none⟩), .int .i64 0]) ∧
      SgRep w' ⟨s, .new b l sv, x, pw 37 x, c, .slice none 0 0, [], false⟩ ∧ Tch (fun k => k = b) w0 w' ∧ ∀ k, (⟨s, .new b l sv, x, pw 37 x, c, .slice none 0 0, [], false⟩ : SgP).foot k → k = b ∨ w0.heap.size ≤ k := by
  have hc : c.size ≤ maxLen := by
    have h1 : c.size ≤ 16 := by have := (nameL_len hn).2; simpa using this
    exact Nat.le_trans h1 (by unfold maxLen; decide)
  have C := Lib.hid (Key_yes x w0 hk); have D := Lib.hid (hdr_yes c hc hn)
  have CL := Lib.hid (fun w (g : w0.grownBy w none) => lgOpen_ok (h.grown g))
  have HK := Lib.hid hk; have HN := Lib.hid hn
  obtain ⟨q, hq⟩ : ∃ q, pw 37 x = q := ⟨_, rfl⟩
  have HQ := Lib.hid hq
  rw [hq] at C ⊢
  clear h hk hn hc hq
  go_enter Tryz.func9, Tryz.ntmps9
  go_wp2_with fail
  refine C.out.mono ?_
  rintro e w1 ⟨rfl, n1, hw1⟩
  have G1 := Lib.hid (show w0.grownBy w1 none from hw1 ▸ drew_grown w0 n1)
  clear hw1
  go_wp2_with (first | ((with_reducible refine @wpList_at _ _ _ _ _ _ _ (.build 78 _) rfl ?_); refine wpList_build_eq rfl 78 _ rfl [(0, .string c), (1, .int .i64 1)] (by kernel_rfl) (hdr1 c).cells (bHdr1 c) ?_))
  refine (D.out w1).mono ?_
  rintro e w2 ⟨a, n, k, rfl, g2⟩
  have G2 := Lib.hid (Lib.grownBy_trans G1.out g2)
  clear g2
  go_wp2_with fail
  refine (CL.out w2 G2.out).mono ?_
  rintro e w3 ⟨l, sv, rfl, hl, t3, f3⟩
  have HL := Lib.hid hl; have T3 := Lib.hid t3; have FT := Lib.hid f3
  have O := OwF.start (fun _ => False) w3
  clear hl t3 f3
  go_wp2_with (first | ((with_reducible refine @wpList_at _ _ _ _ _ _ _ (.build 83 _) rfl ?_); refine wpList_build_eq rfl 83 _ rfl [(0, .pointer (some ⟨l, 0, none⟩)), (1, .int .u64 (x : Int)), (2, .int .u64 (q : Int)), (3, .string c)] (by kernel_rfl) _ (bSgn l x q c) ?_) | ((with_reducible refine @wpList_at _ _ _ _ _ _ _ (.box 83 (.tmp 47)) rfl ?_); refine @wpList_of_box _ _ _ _ _ _ _ _ _ _ 83 (.tmp 47) rfl [.pointer (some ⟨l, 0, none⟩), .int .u64 (x : Int), .int .u64 (q : Int), .string c, .slice none 0 0, .bool false] rfl O rfl ?_; clear O; intro b13 w O))
  refine (records_nil (RowAt.one ((HL.out.blk.grown (O.tch.grown (fun _ h => h.elim)) (by simp)).row 1 _ rfl))).mono ?_
  rintro e w4 ⟨rfl, g4⟩
  replace O := O.call g4
  clear g4
  go_wp2_with fail
  go_loopw [52] (fun i wr => i = .int .i64 0 ∧ wr = w4) (fun _ _ => 0)
  case atStart => exact ⟨rfl, rfl⟩
  case round =>
    obtain ⟨rfl, rfl⟩ := hrel
    go_wp2_with fail
    go_ret2
    have hs := (O.lie 0 rfl).resolve_right id
    have hz := T3.out.size
    have hz2 := G2.out.size
    refine ⟨b13, l, sv, rfl, ⟨O.at_ 0 rfl, HL.out.grown (O.tch.grown (fun _ h => h.elim)), SRow.nil _ _ _, (fun _ h => by cases h), fun _ => rfl, HK.out, HQ.out.symm, HN.out⟩, ((Tch.of_grown G2.out).trans T3.out (fun _ hb _ => hb)).trans O.tch (fun _ hf _ => hf.elim), fun k hk => ?_⟩
    rcases hk with hk | hk | hk
    · have hk' : k = b13 := hk
      exact .inr (by omega)
    · rcases FT.out k hk with h | h
      · exact .inl h
      · exact .inr (by omega)
    · cases hk
/-! a live question -/
def blkA : List UInt8 := 1 :: List.replicate 31 0
def blkB : List UInt8 := 2 :: List.replicate 31 0
theorem bHA : Tryz.prog.built 26 [(0, .int .u8 1)] = some (Lib.byteCells blkA).toArray := by kernel_rfl
theorem bHB : Tryz.prog.built 26 [(0, .int .u8 2)] = some (Lib.byteCells blkB).toArray := by kernel_rfl
def chA : ByteArray := ⟨#[97]⟩
theorem signL_yes {x : Nat} {v : VoteD} (hk : keyOk x = true) (ho : okVote v = true) : signL x v = (v.by (pw 37 x) (sgR x (encVote v.bare)) (sgS x (encVote v.bare)), 0) := by
  unfold signL
  rw [if_pos ho, if_pos hk]
theorem room_new (b l : Nat) (sv : Value) : (LgP.new b l sv).room 40 := by
  unfold LgP.room LgP.new TpP.new TpP.next
  simp
set_option maxHeartbeats 8000000 in
theorem alive13_ok (w0 : World) (hR : RowAt w0 3 0 (wCells rootsL)) : Calls Tryz.prog 10 #[] w0 fun e w' => e = .returned (.bool true) ∧ w0.grownBy w' none := by
  have HR := Lib.hid hR
  have hk5 : keyOk 5 = true := by unfold keyOk pQ; decide
  have HK := Lib.hid hk5
  have CO := Lib.hid (fun w b (h : TpRep w (.new b)) => sgOpen_new h 5 hk5 chA (by decide))
  obtain ⟨v1, hv1⟩ : ∃ v, voteOf chA 1 0 1 blkA = v := ⟨_, rfl⟩
  have ho1 : okVote (voteOf chA 1 0 1 blkA) = true := by decide
  have hs1 := signL_yes hk5 ho1
  obtain ⟨S, hS⟩ : ∃ s, (voteOf chA 1 0 1 blkA).by (pw 37 5) (sgR 5 (encVote (voteOf chA 1 0 1 blkA).bare)) (sgS 5 (encVote (voteOf chA 1 0 1 blkA).bare)) = s := ⟨_, rfl⟩
  rw [hS] at hs1
  have HSP := Lib.hid (show S.height = 1 ∧ S.round = 0 ∧ S.type = 1 ∧ S.block = blkA ∧ S.key = ((pw 37 5 : Nat) : Int) from hS ▸ ⟨rfl, rfl, rfl, rfl, rfl⟩)
  have hq5 : pw 37 5 < pP := pw_lt _ _
  obtain ⟨q, hq⟩ : ∃ q, pw 37 5 = q := ⟨_, rfl⟩
  rw [hq] at HSP CO
  have C1 := Lib.hid (fun w (z : SgP) (h : SgRep w z) (e1 : z.secret = 5) (e2 : z.chain = chA) (e3 : z.bad = false) (e4 : z.vs = []) (e5 : z.y.room 1) (r : RowAt w 3 0 (wCells rootsL)) =>
    (show Calls Tryz.prog 11 (SigArgs z 1 0 1 blkA) w fun e w' => e = .returned (.tuple #[.agg S.cells.toArray, .int .i64 0]) ∧ SignNew w z S w' from by
      have he : (signL z.secret (voteOf z.chain 1 0 1 blkA)) = (S, 0) := by rw [e1, e2]; exact hs1
      have := sSign_new0 z h 1 0 1 blkA (by unfold i64R; decide) (by unfold i64R; decide) (by unfold i64R; decide) rfl (by rw [e4]; rfl) e3 r e5 (by rw [he]) (by rw [e4]; decide)
      rwa [he] at this))
  have C2 := Lib.hid (fun w (z : SgP) (h : SgRep w z) (e4 : z.vs = [S]) =>
    (show Calls Tryz.prog 11 (SigArgs z 1 0 1 blkB) w fun e w' => e = .returned (.tuple #[.agg zeroV.cells.toArray, .int .i64 131]) ∧ w.grownBy w' none from by
      have hl : lastP z.vs = ⟨1, 0, 1⟩ := by
        rw [e4]
        show S.pl = _
        unfold VoteD.pl
        rw [HSP.out.1, HSP.out.2.1, HSP.out.2.2.1]
      have hb : (lastV z.vs).block = blkA := by rw [e4]; exact HSP.out.2.2.2.1
      exact sSign_blk z h 1 0 1 blkB (by unfold i64R; decide) (by unfold i64R; decide) (by unfold i64R; decide) rfl (by rw [e4]; exact Nat.succ_ne_zero 0) (by rw [hl]; show aheadB ⟨1, 0, 1⟩ ⟨1, 0, 1⟩ = false; decide) hl (by rw [hb]; decide)))
  have HSW := Lib.hid (show S.wf from hS ▸ by_wf _ (voteOf_wf (by decide) (by unfold i64R; decide) (by unfold i64R; decide) (by unfold i64R; decide) rfl) _ _ _ (by unfold pP at hq5; omega) (Nat.lt_trans (pw_lt _ _) (by unfold pP; decide)) (sgS_u64 _ _))
  have HSL := Lib.hid (S.cells_length HSW.out)
  clear hR hk5 hv1 ho1 hs1 hS hq5
  go_enter Tryz.func10, Tryz.ntmps10
  go_wp2_with fail
  refine (tpNew_ok w0).mono ?_
  rintro e w1 ⟨bt, rfl, ht, g1, hbt⟩
  have HT := Lib.hid ht; have G1 := Lib.hid g1; have HBT := Lib.hid hbt
  clear ht g1 hbt
  go_wp2_with fail
  refine (CO.out w1 bt HT.out).mono ?_
  rintro e w2 ⟨s, l, sv, rfl, hz, t2, f2⟩
  have G2 := Lib.hid (show w0.grownBy w2 none from ((Tch.of_grown (F := fun k => k = bt) G1.out).trans t2 (fun _ h _ => h)).grown (fun k hk => hk ▸ HBT.out))
  have HF2 := Lib.hid (show ∀ k, _ → w0.heap.size ≤ k from fun k hk => (f2 k hk).elim (fun e => e ▸ HBT.out) (fun h => Nat.le_trans G1.out.size h))
  obtain ⟨z, hzz⟩ : ∃ z : SgP, (⟨s, .new bt l sv, 5, q, chA, .slice none 0 0, [], false⟩ : SgP) = z := ⟨_, rfl⟩
  rw [hzz] at hz HF2
  have HZ := Lib.hid hz
  have HZ0 := Lib.hid (show z.secret = 5 ∧ z.chain = chA ∧ z.bad = false ∧ z.vs = [] ∧ z.y.room 1 ∧ z.s = s ∧ z.key = q from hzz ▸ ⟨rfl, rfl, rfl, rfl, by have := room_new bt l sv; unfold LgP.room at this ⊢; dsimp only; omega, rfl, rfl⟩)
  clear hz t2 f2 hzz
  go_upto_region 4 with fail
  go_wp2_with (first | ((with_reducible refine @wpList_at _ _ _ _ _ _ _ (.build 26 _) rfl ?_); refine wpList_build_eq rfl 26 _ rfl [(0, .int .u8 1)] (by kernel_rfl) (Lib.byteCells blkA) bHA ?_))
  refine (show Calls Tryz.prog 11 #[.pointer (some ⟨s, 0, none⟩), .int .i64 1, .int .i64 0, .int .i64 1, .agg (Lib.byteCells blkA).toArray] w2 _ from by
    have := C1.out w2 z HZ.out HZ0.out.1 HZ0.out.2.1 HZ0.out.2.2.1 HZ0.out.2.2.2.1 HZ0.out.2.2.2.2.1 (HR.out.grown G2.out (by simp))
    unfold SigArgs at this
    rw [HZ0.out.2.2.2.2.2.1] at this
    exact this).mono ?_
  rintro e w3 ⟨rfl, hn⟩
  obtain ⟨bv, sv1, rv, rw1, sv2, vv, hz3, t3, f3⟩ := hn
  have G3 := Lib.hid (show w0.grownBy w3 none from ((Tch.of_grown (F := z.foot) G2.out).trans t3 (fun _ h _ => h)).grown HF2.out)
  obtain ⟨z3, hzz⟩ : ∃ z3 : SgP, { z with y := (z.y.next bv (encVote S) sv1 rv rw1).synced sv2, vv := vv, vs := z.vs ++ [S] } = z3 := ⟨_, rfl⟩
  rw [hzz] at hz3
  have HZ3 := Lib.hid hz3
  have HE3 := Lib.hid (show z3.vs = [S] ∧ z3.s = s ∧ z3.key = q from hzz ▸ ⟨by show z.vs ++ [S] = [S]; rw [HZ0.out.2.2.2.1]; rfl, HZ0.out.2.2.2.2.2.1, HZ0.out.2.2.2.2.2.2⟩)
  have O := OwF.start (fun _ => False) w3
  clear hz3 t3 f3 hzz
  go_upto_region 5 with (first | ((with_reducible refine @wpList_at _ _ _ _ _ _ _ (.alloc 40) rfl ?_); refine @wpList_of_alloc _ _ _ _ _ _ _ _ _ _ 40 rfl ZVote ZVote_info O rfl ?_; clear O; intro b3 w O) | ((with_reducible refine @wpList_at _ _ _ _ _ _ _ (.store 40 (.tmp 3) (.tmp 22)) rfl ?_); refine @wpList_of_store _ _ _ _ _ _ _ _ _ _ 40 (.tmp 3) (.tmp 22) rfl O 0 b3 rfl S.cells ZVote _ rfl rfl (by rw [HSL.out]; rfl) (VoteD_one _) (sizeVote _ HSL.out) rfl ?_; clear O; intro w O; simp only [List.set_cons_zero] at O))
  go_wp2_with (first | ((with_reducible refine @wpList_at _ _ _ _ _ _ _ (.build 26 _) rfl ?_); refine wpList_build_eq rfl 26 _ rfl [(0, .int .u8 2)] (by kernel_rfl) (Lib.byteCells blkB) bHB ?_))
  refine (show Calls Tryz.prog 11 #[.pointer (some ⟨s, 0, none⟩), .int .i64 1, .int .i64 0, .int .i64 1, .agg (Lib.byteCells blkB).toArray] w _ from by
    have := C2.out w z3 (HZ3.out.grown (O.tch.grown (fun _ h => h.elim))) HE3.out.1
    unfold SigArgs at this
    rw [HE3.out.2.1] at this
    exact this).mono ?_
  rintro e w4 ⟨rfl, g4⟩
  replace O := O.call g4
  clear g4
  go_upto_region 6 with (first | ((with_reducible refine @wpList_at _ _ _ _ _ _ _ (.alloc 40) rfl ?_); refine @wpList_of_alloc _ _ _ _ _ _ _ _ _ _ 40 rfl ZVote ZVote_info O rfl ?_; clear O; intro b5 w O) | ((with_reducible refine @wpList_at _ _ _ _ _ _ _ (.store 40 (.tmp 5) (.tmp 28)) rfl ?_); refine @wpList_of_store _ _ _ _ _ _ _ _ _ _ 40 (.tmp 5) (.tmp 28) rfl O 0 b5 rfl zeroV.cells ZVote _ rfl rfl rfl (VoteD_one _) (sizeVote _ ZVote_length) rfl ?_; clear O; intro w O; simp only [List.set_cons_zero] at O))
  replace O := O.drew
  have r1 : RowAt w.drew b3 1 [.int .i64 1] := by have := RowAt.one ((O.at_ 1 rfl).row 1 _ rfl); rw [HSP.out.1] at this; exact this
  have r5 : RowAt w.drew b3 36 [.int .u64 (q : Int)] := by have := (VoteD.At.of_row HSW.out (O.at_ 1 rfl).row).key; rw [HSP.out.2.2.2.2, Nat.zero_add] at this; exact RowAt.one this
  refine wp_region_J (rdf [(8, b3, 1, [(.int .i64 1)]), (13, b3, 36, [(.int .u64 (q : Int))])]) [15, 20] (by kernel_rfl) (RdA.cons r1 (RdA.cons r5 RdA.nil)) (fun hH => ?_)
  refine jp 0 ((.int .i64 0)) (Still.all hH) ?_
  simp only [Act.put, jq1, jq3, jq4, jq5, jq6]
  refine jp 1 ((.bool true)) (Still.all hH) ?_
  simp only [Act.put, jq1, jq2, jq3, jq4, jq5, jq6]
  refine jp 2 ((.bool true)) (Still.all hH) ?_
  simp only [Act.put, jq1, jq2, jq3, jq4, jq5, jq6]
  refine jp 3 ((.int .i64 131)) (Still.all hH) ?_
  simp only [Act.put, jq1, jq2, jq3, jq4, jq5, jq6]
  refine jp 4 ((.bool true)) (Still.all hH) ?_
  simp only [Act.put, jq1, jq2, jq3, jq4, jq5, jq6]
  refine jp 5 ((.bool true)) (Still.all hH) ?_
  simp only [Act.put, jq1, jq2, jq3, jq4, jq5, jq6]
  refine jp 6 ((.bool true)) (Still.all hH) ?_
  simp only [Act.put, jq1, jq2, jq3, jq4, jq5, jq6]
  refine jp 7 ((.pointer (some ⟨b3, 1, none⟩))) (Still.all hH) ?_
  simp only [Act.put, jq1, jq2, jq3, jq4, jq5, jq6]
  refine jr 0 8 ((.int .i64 1)) rfl rfl (yields_cell (by rfl) 3 _ rfl b3 1 rfl (.int .i64 1) _ (fun W h => h) Tryz.underlying3 rfl) (Still.all hH) ?_
  simp only [Act.put, jq1, jq2, jq3, jq4, jq5, jq6]
  refine jp 9 ((.bool true)) (Still.all hH) ?_
  simp only [Act.put, jq1, jq2, jq3, jq4, jq5, jq6]
  refine jp 10 ((.bool true)) (Still.all hH) ?_
  simp only [Act.put, jq1, jq2, jq3, jq4, jq5, jq6]
  refine jp 11 ((.bool true)) (Still.all hH) ?_
  simp only [Act.put, jq1, jq2, jq3, jq4, jq5, jq6]
  refine jp 12 ((.pointer (some ⟨b3, 36, none⟩))) (Still.all hH) ?_
  simp only [Act.put, jq1, jq2, jq3, jq4, jq5, jq6]
  refine jr 1 13 ((.int .u64 (q : Int))) rfl rfl (yields_cell (by rfl) 22 _ rfl b3 36 rfl (.int .u64 (q : Int)) _ (fun W h => h) Tryz.underlying22 rfl) (Still.all hH) ?_
  simp only [Act.put, jq1, jq2, jq3, jq4, jq5, jq6]
  refine jp 14 ((.pointer (some ⟨s, 0, none⟩))) (Still.all hH) ?_
  simp only [Act.put, jq1, jq2, jq3, jq4, jq5, jq6]
  refine wpAnyJ_ready (rs := [15]) (by kernel_rfl) (by simp) ?_
  refine AllJ.keep rfl (by rfl) (by rfl) (fun K hK => ?_) (AllJ.nil)
  refine wp_call 16 _ _ (by rfl) (enters Tryz.func16 (by kernel_rfl) rfl) (by rfl) ((show Calls Tryz.prog 16 #[.pointer (some ⟨s, 0, none⟩)] _ (fun e w' => e = .returned (.int .u64 (q : Int)) ∧ w' = _) from by have := skey_ok (HZ3.out.grown (O.tch.grown (fun _ h => h.elim))); rw [HE3.out.2.1, HE3.out.2.2] at this; exact this)) ?_
  rintro e u ⟨rfl, rfl⟩
  refine ⟨_, rfl, ?_⟩
  simp only [Act.put, jq1, jq2, jq3, jq4, jq5, jq6]
  refine hK.out _ _ hH ?_
  clear hK K
  refine jp 16 ((.bool true)) (Still.all hH) ?_
  simp only [Act.put, jq1, jq2, jq3, jq4, jq5, jq6]
  refine jp 17 ((.bool true)) (Still.all hH) ?_
  simp only [Act.put, jq1, jq2, jq3, jq4, jq5, jq6]
  refine jp 18 ((.bool true)) (Still.all hH) ?_
  simp only [Act.put, jq1, jq2, jq3, jq4, jq5, jq6]
  refine jp 19 ((.pointer (some ⟨s, 0, none⟩))) (Still.all hH) ?_
  simp only [Act.put, jq1, jq2, jq3, jq4, jq5, jq6]
  refine wpAnyJ_ready (rs := [20]) (by kernel_rfl) (by simp) ?_
  refine AllJ.keep rfl (by rfl) (by rfl) (fun K hK => ?_) (AllJ.nil)
  refine wp_call 12 _ _ (by rfl) (enters Tryz.func12 (by kernel_rfl) rfl) (by rfl) ((show Calls Tryz.prog 12 #[.pointer (some ⟨s, 0, none⟩)] _ _ from by have := sVotes_ok (HZ3.out.grown (O.tch.grown (fun _ h => h.elim))) (by rw [HE3.out.1]; exact Nat.le_of_ble_eq_true rfl); rw [HE3.out.2.1, HE3.out.1] at this; exact this)) ?_
  rintro e u ⟨v9, rfl, h9, g9, _⟩
  refine ⟨_, rfl, ?_⟩
  obtain ⟨a9, c9, hv9, _⟩ := h9.shape
  subst hv9
  replace O := O.call g9
  clear h9
  simp only [Act.put, jq1, jq2, jq3, jq4, jq5, jq6]
  refine hK.out _ _ (RdA.grown hH g9) ?_
  replace hH := RdA.grown hH g9
  clear hK K
  clear g9
  refine jp 21 ((.int .i64 1)) (Still.all hH) ?_
  simp only [Act.put, jq1, jq2, jq3, jq4, jq5, jq6]
  refine jp 22 ((.bool true)) (Still.all hH) ?_
  simp only [Act.put, jq1, jq2, jq3, jq4, jq5, jq6]
  refine jp 23 ((.bool true)) (Still.all hH) ?_
  simp only [Act.put, jq1, jq2, jq3, jq4, jq5, jq6]
  refine jp 24 ((.bool true)) (Still.all hH) ?_
  simp only [Act.put, jq1, jq2, jq3, jq4, jq5]
  refine wpAnyJ_done (by kernel_rfl) ?_ _
  clear hH r1 r5
  go_wp2_with fail
  go_ret
  exact ⟨rfl, Lib.grownBy_trans G3.out (O.tch.grown (fun _ h => h.elim))⟩

end Go.Proofs.YtcbkehnlgpcelaaGreatDoor
