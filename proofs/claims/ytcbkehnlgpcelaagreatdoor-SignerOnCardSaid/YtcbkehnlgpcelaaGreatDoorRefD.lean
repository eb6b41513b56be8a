/- Walks: nuncioref06.Vote. Walks: nuncioref06.Header. Walks: nuncioref06.ends; arms for the document's readers. -/
import Derived.Test.YtcbkehnlgpcelaaGreatDoorRefB
import Derived.Test.YtcbkehnlgpcelaaGreatDoorDecHeader
import Derived.Test.YtcbkehnlgpcelaaGreatDoorPlain6
import Derived.Deep.Cut
import Derived.Deep.CutRange
import Derived.Deep.RegionHeld3
import Derived.Test.YtcbkehnlgpcelaaGreatDoorBuild
namespace Go.Proofs.YtcbkehnlgpcelaaGreatDoor
open Go.RowKit
set_option maxRecDepth 100000

/-- what the document's bytes of a thing are, and whether it is right -/
def BytesOk (l : List UInt8) (ok : Bool) (w : World) (e : Ending) (w' : World) : Prop := ∃ a n c, e = .returned (.tuple #[.slice a n c, .bool ok]) ∧ OwnB w.heap.size (.slice a n c) l w' ∧ Below w.heap.size w w'
/-- what the document's bytes of a packet or a proof are, where it is right; else whether it is -/
def BytesIf (l : List UInt8) (ok : Bool) (w : World) (e : Ending) (w' : World) : Prop := ∃ a n c, e = .returned (.tuple #[.slice a n c, .bool ok]) ∧ (ok = true → OwnB w.heap.size (.slice a n c) l w') ∧ Below w.heap.size w w'
theorem cell_keep {w w1 : World} {b o : Nat} {v : Value} (h : w.cell? ⟨b, o, none⟩ = some v) (hb : Below w.heap.size w w1) : w1.cell? ⟨b, o, none⟩ = some v := (hb.cell (World.block_lt_of_cell? w _ h)).trans h
theorem val_bool {a b : Bool} (h : a = b) : Value.bool a = .bool b := by rw [h]
set_option maxHeartbeats 1000000 in
theorem RVote (v : VoteD) (w : World) (hv : v.wf) (hc : v.chain.size ≤ 140737488351232) :
    Calls Tryz.prog 84 #[v.val] w (BytesOk (encVote v) (okVote v) w) := by
  unfold VoteD.val
  obtain ⟨W, hW, hblk, hrow, hf, hb, hsz⟩ := box_as w v.cells 40
  have HW := Lib.hid hW; have HR := Lib.hid hrow; have HB := Lib.hid hb; have HS := Lib.hid hsz; have Hv := Lib.hid hv; have Hc := Lib.hid hc
  have A := Lib.hid (VoteD.At.of_row hv hrow)
  clear hW hblk hrow hf hb hsz hv hc
  have c0 := A.out.chain; rw [Nat.zero_add] at c0
  go_enter Tryz.func84, Tryz.ntmps84
  go_upto_region 1 with (fail)
  rw [HW.out]
  go_upto_region 2 with (go_at_call 48; refine (Name_any _ _ Hv.out.chain).mono ?_; rintro e w' ⟨rfl, rfl⟩)
  go_cut [4, 5] from 9 (fun _ s5 w' => s5 = .bool (okVote v) ∧ W = w')
  case first =>
    have c1 := A.out.height; rw [Nat.zero_add] at c1
    have c2 := A.out.round; rw [Nat.zero_add] at c2
    have c3 := A.out.type; rw [Nat.zero_add] at c3
    cases h0 : nameL v.chain.data.toList
    · have e := Lib.hid (show false = okVote v by simp [okVote, h0]); clear h0
      go_wp2_with fail
      go_meet
      case rel => exact ⟨val_bool e.out, rfl⟩
    · have H0 := Lib.hid h0; clear h0
      go_wp2_with fail
      refine (in_any _ _ _ _).mono ?_; rintro e w' ⟨rfl, rfl⟩
      cases h1 : inR v.height 1 1099511627776
      · have e := Lib.hid (show false = okVote v by simp [okVote, h1]); clear h1
        go_wp2_with fail
        go_meet
        case rel => exact ⟨val_bool e.out, rfl⟩
      · have H1 := Lib.hid h1; clear h1
        go_wp2_with fail
        refine (in_any _ _ _ _).mono ?_; rintro e w' ⟨rfl, rfl⟩
        cases h2 : inR v.round 0 1048576
        · have e := Lib.hid (show false = okVote v by simp [okVote, h2]); clear h2
          go_wp2_with fail
          go_meet
          case rel => exact ⟨val_bool e.out, rfl⟩
        · have H2 := Lib.hid h2; clear h2
          go_wp2_with fail
          refine (in_any _ _ _ _).mono ?_; rintro e w' ⟨rfl, rfl⟩
          have e := Lib.hid (show inR v.type 1 2 = okVote v by simp [okVote, H0.out, H1.out, H2.out])
          go_wp2_with fail
          go_meet
          case rel => exact ⟨val_bool e.out, rfl⟩
  case rest =>
    obtain ⟨rfl, rfl⟩ := hcut
    go_upto_region 3 with (fail)
    go_cut [6] from 26 (fun s6 w' => OwnB (w.heap.size + 1) s6 (be64 1 ++ textL v.chain) w' ∧ Below (w.heap.size + 1) W w')
    case first =>
      clear HW HR
      have hs1 : w.heap.size + 1 ≤ W.drew.heap.size := Nat.le_of_eq HS.out.symm
      go_region_held3 (fun w' => w'.cell? ⟨w.heap.size, 0, none⟩ = some (.string v.chain)) (first | assumption) (first | (go_at_call 119; refine (MNumber 1 _).mono ?_; rintro e w1 ⟨a1, n1, k1, rfl, o1, b1⟩; have hk1 := cell_keep (w := W.drew) c0 b1; have hs2 := Nat.le_trans hs1 b1.size) | (go_at_call 120; refine (MText v.chain _ Hc.out).mono ?_; rintro e w2 ⟨a2, n2, k2, rfl, o2, b2⟩; have hk2 := cell_keep hk1 b2; have hs3 := Nat.le_trans hs2 b2.size) | (refine step_app (by rfl) _ _ (by rfl) (by rfl) ((o1.below b2).mono hs1) (by rfl) o2.rd ?_ hs3 ?_; (rw [be64_length, textL_length]; have := Hc.out; omega); intro a3 n3 k3 w3 o3 b3; have hk3 : w3.cell? ⟨w.heap.size, 0, none⟩ = some (.string v.chain) := (b3.cell (p := ⟨w.heap.size, 0, none⟩) (Nat.lt_succ_self _)).trans hk2))
      go_wp2
      go_meet
      case rel => exact ⟨o3, ((show Below (w.heap.size + 1) W W.drew from (Below.refl _ _).drew).trans ((b1.mono hs1).trans (b2.mono hs2))).trans b3⟩
    case rest =>
      obtain ⟨o, b⟩ := hcut
      obtain ⟨a, n, k, rfl⟩ := o.shape
      have OB := Lib.hid o; have Bel := Lib.hid b; clear o b c0
      have Z := Lib.hid (show w.heap.size + 1 ≤ wc.heap.size from Nat.le_trans (Nat.le_of_eq HS.out.symm) Bel.out.size)
      have c := (A.out.below Hv.out Bel.out (Nat.lt_succ_self _)).height; rw [Nat.zero_add] at c
      go_wp2_with fail
      refine (MNumber _ _).mono ?_
      rintro e w1 ⟨a1, n1, k1, rfl, o, b⟩
      have OR := Lib.hid o.rd; replace OB := Lib.hid (OB.out.below b); replace Bel := Lib.hid (Bel.out.trans (b.mono Z.out)); replace Z := Lib.hid (Nat.le_trans Z.out b.size); clear o b c
      go_wp2_with (first | (refine wpList_app rfl _ _ rfl rfl OB.out rfl OR.out ?_ Z.out ?_; (simp only [List.length_append, be64_length, textL_length]; have := Hc.out; omega); intro a2 n2 k2 w2 o b; replace OB := Lib.hid o; replace Bel := Lib.hid (Bel.out.trans b); replace Z := Lib.hid (Nat.le_trans Z.out b.size); clear o b OR; have c := (A.out.below Hv.out Bel.out (Nat.lt_succ_self _)).round; rw [Nat.zero_add] at c))
      go_wp2_with fail
      refine (MNumber _ _).mono ?_
      rintro e w1 ⟨a1, n1, k1, rfl, o, b⟩
      have OR := Lib.hid o.rd; replace OB := Lib.hid (OB.out.below b); replace Bel := Lib.hid (Bel.out.trans (b.mono Z.out)); replace Z := Lib.hid (Nat.le_trans Z.out b.size); clear o b c
      go_wp2_with (first | (refine wpList_app rfl _ _ rfl rfl OB.out rfl OR.out ?_ Z.out ?_; (simp only [List.length_append, be64_length, textL_length]; have := Hc.out; omega); intro a2 n2 k2 w2 o b; replace OB := Lib.hid o; replace Bel := Lib.hid (Bel.out.trans b); replace Z := Lib.hid (Nat.le_trans Z.out b.size); clear o b OR; have c := (A.out.below Hv.out Bel.out (Nat.lt_succ_self _)).type; rw [Nat.zero_add] at c))
      go_wp2_with fail
      refine (MNumber _ _).mono ?_
      rintro e w1 ⟨a1, n1, k1, rfl, o, b⟩
      have OR := Lib.hid o.rd; replace OB := Lib.hid (OB.out.below b); replace Bel := Lib.hid (Bel.out.trans (b.mono Z.out)); replace Z := Lib.hid (Nat.le_trans Z.out b.size); clear o b c
      go_wp2_with (first | (refine wpList_app rfl _ _ rfl rfl OB.out rfl OR.out ?_ Z.out ?_; (simp only [List.length_append, be64_length, textL_length]; have := Hc.out; omega); intro a2 n2 k2 w2 o b; replace OB := Lib.hid o; replace Bel := Lib.hid (Bel.out.trans b); replace Z := Lib.hid (Nat.le_trans Z.out b.size); clear o b OR; have HR := Lib.hid (A.out.below Hv.out Bel.out (Nat.lt_succ_self _)).block) | (refine wpList_load_part rfl 26 _ rfl w.heap.size 4 rfl (Lib.byteCells v.block) _ (Nat.zero_add 4 ▸ HR.out) Tryz.underlying26 rfl (hash_size _ Hv.out.block) ?_))
      refine (MHash _ _ Hv.out.block).mono ?_
      rintro e w1 ⟨a1, n1, k1, rfl, o, b⟩
      have OR := Lib.hid o.rd; replace OB := Lib.hid (OB.out.below b); replace Bel := Lib.hid (Bel.out.trans (b.mono Z.out)); replace Z := Lib.hid (Nat.le_trans Z.out b.size); clear o b HR
      go_wp2_with (first | (refine wpList_app rfl _ _ rfl rfl OB.out rfl OR.out ?_ Z.out ?_; (simp only [List.length_append, be64_length, textL_length, Hv.out.block]; have := Hc.out; omega); intro a2 n2 k2 w2 o b; replace OB := Lib.hid o; replace Bel := Lib.hid (Bel.out.trans b); replace Z := Lib.hid (Nat.le_trans Z.out b.size); clear o b OR; have c := (A.out.below Hv.out Bel.out (Nat.lt_succ_self _)).key; rw [Nat.zero_add] at c))
      go_wp2_with fail
      refine (MWord _ _ Hv.out.key.1 Hv.out.key.2).mono ?_
      rintro e w1 ⟨a1, n1, k1, rfl, o, b⟩
      have OR := Lib.hid o.rd; replace OB := Lib.hid (OB.out.below b); replace Bel := Lib.hid (Bel.out.trans (b.mono Z.out)); replace Z := Lib.hid (Nat.le_trans Z.out b.size); clear o b c
      go_wp2_with (first | (refine wpList_app rfl _ _ rfl rfl OB.out rfl OR.out ?_ Z.out ?_; (simp only [List.length_append, be64_length, textL_length, Hv.out.block]; have := Hc.out; omega); intro a2 n2 k2 w2 o b; replace OB := Lib.hid o; replace Bel := Lib.hid (Bel.out.trans b); replace Z := Lib.hid (Nat.le_trans Z.out b.size); clear o b OR; have c := (A.out.below Hv.out Bel.out (Nat.lt_succ_self _)).r; rw [Nat.zero_add] at c))
      go_wp2_with fail
      refine (MWord _ _ Hv.out.r.1 Hv.out.r.2).mono ?_
      rintro e w1 ⟨a1, n1, k1, rfl, o, b⟩
      have OR := Lib.hid o.rd; replace OB := Lib.hid (OB.out.below b); replace Bel := Lib.hid (Bel.out.trans (b.mono Z.out)); replace Z := Lib.hid (Nat.le_trans Z.out b.size); clear o b c
      go_wp2_with (first | (refine wpList_app rfl _ _ rfl rfl OB.out rfl OR.out ?_ Z.out ?_; (simp only [List.length_append, be64_length, textL_length, Hv.out.block]; have := Hc.out; omega); intro a2 n2 k2 w2 o b; replace OB := Lib.hid o; replace Bel := Lib.hid (Bel.out.trans b); replace Z := Lib.hid (Nat.le_trans Z.out b.size); clear o b OR; have c := (A.out.below Hv.out Bel.out (Nat.lt_succ_self _)).s; rw [Nat.zero_add] at c))
      go_wp2_with fail
      refine (MWord _ _ Hv.out.s.1 Hv.out.s.2).mono ?_
      rintro e w1 ⟨a1, n1, k1, rfl, o, b⟩
      have OR := Lib.hid o.rd; replace OB := Lib.hid (OB.out.below b); replace Bel := Lib.hid (Bel.out.trans (b.mono Z.out)); replace Z := Lib.hid (Nat.le_trans Z.out b.size); clear o b c
      go_wp2_with (first | (refine wpList_app rfl _ _ rfl rfl OB.out rfl OR.out ?_ Z.out ?_; (simp only [List.length_append, be64_length, textL_length, Hv.out.block]; have := Hc.out; omega); intro a2 n2 k2 w2 o b; replace OB := Lib.hid o; replace Bel := Lib.hid (Bel.out.trans b); replace Z := Lib.hid (Nat.le_trans Z.out b.size); clear o b OR; skip))
      go_ret2
      exact ⟨_, _, _, rfl, OB.out.mono (Nat.le_succ _), HB.out.trans (Bel.out.mono (Nat.le_succ _))⟩

theorem wpList_box_agg {P : Program} {ops : Array Oper} {rest : List Oper} {o : Oper} {a : Act} {w : World} {Q : Exit → Act → World → Prop} (hgd : Region.wanted o (yielded ops a.tmps) = true) (ty : TypeId) (x : Operand) (ho : o.op = .box ty x) (vs : List Value)
    (hx : a.eval x = .agg vs.toArray)
    (h : ∀ w2, Blk w2 w.heap.size vs ty → w.grownBy w2 none → w2.heap.size = w.heap.size + 1 → wpList P ops Q rest (a.put o.dst (.pointer (some ⟨w.heap.size, 0, none⟩))) w2) : wpList P ops Q (o :: rest) a w :=
  wpList_box_as hgd ty x ho vs hx h

theorem one_int : (Tryz.prog.info? 3).map (·.size) = some 1 := by kernel_rfl
theorem one_u64 : (Tryz.prog.info? 22).map (·.size) = some 1 := by kernel_rfl
/-- the state behind the kind -/
def kst (k : Int) (st : RS) : RS := if (rdNum st).1 = k then (rdNum st).2 else none
def endsN (st : RS) (ok : Bool) : Int := if decide (st = some []) && ok then 0 else 61
set_option maxHeartbeats 400000 in
theorem ends_any (p : Nat) (st : RS) (ok : Bool) (w : World) (h : IsR w p st) :
    Calls Tryz.prog 85 #[.pointer (some ⟨p, 0, none⟩), .bool ok] w fun e w' => e = .returned (.int .i64 (endsN st ok)) ∧ w = w' := by
  have C := Lib.hid (QEnd p st w h.e)
  by_cases hs : st = some []
  · subst hs
    clear h
    unfold endsN
    rw [decide_eq_true rfl, Bool.true_and]
    cases ok with
    | true =>
      go_enter Tryz.func85, Tryz.ntmps85
      go_wp2_with fail
      refine C.out.mono ?_; rintro e w' ⟨rfl, rfl⟩
      rw [show rdEnd (some []) = 0 from rfl]
      go_wp2
      go_ret
      exact ⟨rfl, rfl⟩
    | false =>
      go_enter Tryz.func85, Tryz.ntmps85
      go_wp2_with fail
      refine C.out.mono ?_; rintro e w' ⟨rfl, rfl⟩
      rw [show rdEnd (some []) = 0 from rfl]
      go_wp2
      go_ret
      exact ⟨rfl, rfl⟩
  · have e : endsN st ok = 61 := by unfold endsN; rw [decide_eq_false hs]; rfl
    have e2 : rdEnd st = 21 := by
      unfold rdEnd
      split
      · exact absurd rfl hs
      · rfl
    rw [e2] at C
    rw [e]
    clear h e e2 hs
    go_enter Tryz.func85, Tryz.ntmps85
    go_wp2_with fail
    refine C.out.mono ?_; rintro e w' ⟨rfl, rfl⟩
    go_wp2
    go_ret
    exact ⟨rfl, rfl⟩

theorem Below.grownBy_ {w w' : World} (h : Below w.heap.size w w') : w.grownBy w' none := below_grown h
theorem IsR.same {w : World} {p : Nat} {l : List UInt8} (h : IsR w p (some l)) : IsR (w.setCell ⟨p, 1, none⟩ (.bool false)) p (some l) := by
  obtain ⟨f0, f1, h3, ao, c, h4, h5, h6, h7⟩ := h
  refine ⟨by simpa using f0, by simpa using f1, World.cell?_setCell_same' _ _ _ (by rw [h3]; rfl), ao, c, (World.cell?_setCell_other _ _ _ _ (by simp)).trans h4, h5, h6, ?_⟩
  rcases h7 with h7 | ⟨g, o, e, hp, hr⟩
  · exact Or.inl h7
  · exact Or.inr ⟨g, o, e, hp, hr.other (by omega) _⟩
theorem kst_ne {k n : Int} {st : RS} (hn : (rdNum st).1 = n) (h : n ≠ k) : kst k st = none := by unfold kst; rw [if_neg (by rw [hn]; exact h)]
theorem kst_eq {k : Int} {st : RS} (h : (rdNum st).1 = k) : kst k st = (rdNum st).2 := if_pos h
theorem below_of_grown {w w' : World} (h : w.grownBy w' none) : Below w.heap.size w w' := ⟨h.os, h.tape, h.output, h.size, fun k hk => h.block k hk (by simp)⟩
theorem below_of_grown_new {w W w' : World} {p : Nat} (h : w.grownBy W none) (k : W.grownBy w' (some p)) (hp : w.heap.size ≤ p) : Below w.heap.size w w' := below_of_grown (grown_new h k hp)

theorem bReader (ao : Option Addr) (n c : Nat) : Tryz.prog.built 144 [(0, .slice ao n c)] = some ([.slice ao n c, .bool false] : List Value).toArray := by kernel_rfl
theorem newReader {w : World} {p : Nat} {ao : Option Addr} {l : List UInt8} {c : Nat} {T : TypeId} (h : Blk w p [.slice ao l.length c, .bool false] T) (h1 : l.length ≤ c) (h2 : c ≤ maxLen)
    (h3 : (ao = none ∧ l = [] ∧ c = 0) ∨ ∃ g o, ao = some ⟨g, o, none⟩ ∧ g < p ∧ RowAt w g o (Lib.byteCells l)) : IsR w p (some l) := by
  have c0 := h.row 0 _ rfl; have c1 := h.row 1 _ rfl
  exact ⟨h.frozen 0, h.frozen 1, c1, ao, c, c0, h1, h2, h3⟩

end Go.Proofs.YtcbkehnlgpcelaaGreatDoor
