/- Walk: nunciolaw06.FormOnly. -/
import Derived.Test.YtaffpgafbjhahaaDoorFormReads
import Derived.Test.YtaffpgafbjhahaaDoorOnly
import Derived.Test.YtaffpgafbjhahaaDoorEncode
import Derived.Test.YtaffpgafbjhahaaDoorRefB
namespace Go.Proofs.YtaffpgafbjhahaaDoor
open Go.RowKit
set_option maxRecDepth 100000

def cnt {D : Type} (r : Option D) : Nat := if r.isSome then 1 else 0
theorem cnt_le {D : Type} (r : Option D) : cnt r ≤ 1 := by cases r <;> simp [cnt]
theorem cnt_kind {D : Type} {r : Option D} {k kd : Int} (h : ∀ d, r = some d → kd = k) : cnt r = 0 ∨ (cnt r = 1 ∧ kd = k) := by
  cases r with
  | none => exact Or.inl rfl
  | some d => exact Or.inr ⟨rfl, h d rfl⟩
theorem cnt_sum (b : List UInt8) : 0 + cnt (decVote b) + cnt (decHeader b) + cnt (decLight b) + cnt (decPacket b) + cnt (decProof b) ≤ 1 := by
  have h1 := cnt_kind fun d (h : decVote b = some d) => (only_vote h).2.2.2
  have h2 := cnt_kind fun d (h : decHeader b = some d) => (only_header h).2.2.2
  have h3 := cnt_kind fun d (h : decLight b = some d) => (only_light h).2.2.2
  have h4 := cnt_kind fun d (h : decPacket b = some d) => (only_packet h).2.2.2
  have h5 := cnt_kind fun d (h : decProof b = some d) => (only_proof h).2.2.2
  omega
theorem val_nat {a b : Nat} (h : a = b) : Value.int .i64 (a : Int) = .int .i64 (b : Int) := by rw [h]
theorem own_more {B n c : Nat} {a : Option Addr} {b : List UInt8} {x : UInt8} {w : World} (h : OwnB B (.slice a n c) (b ++ [x]) w) : n = (b ++ [x]).length := by
  obtain ⟨ao, c', e, h1, h2, h3⟩ := h.rd
  injection e
theorem ownB_nil (w : World) : OwnB w.heap.size (.slice (some ⟨w.heap.size, 0, none⟩) 0 0) [] (w.alloc (.cells #[] 5)) := by
  refine ⟨rfl, Or.inr ⟨w.heap.size, 0, _, rfl, Nat.le_refl _, heap_alloc_new w _, Nat.le_refl _, by unfold maxLen; omega, rfl, rfl⟩⟩
theorem rd_less {w : World} {ao : Option Addr} {c : Nat} {b : List UInt8} (h : RdB w (.slice ao b.length c) b) (hb : 0 < b.length) : RdB w (.slice ao (b.length - 1) c) b.dropLast := by
  obtain ⟨ao', c', e, h1, h2, h3⟩ := h
  injection e with e1 e2 e3
  subst e1 e3
  refine ⟨ao, c, by rw [List.length_dropLast], by rw [List.length_dropLast]; omega, h2, ?_⟩
  rcases h3 with ⟨_, h4, _⟩ | ⟨g, o, e, hg, hr⟩
  · subst h4; simp at hb
  · refine Or.inr ⟨g, o, e, hg, fun j v hj => hr j v ?_⟩
    have hl := (List.getElem?_eq_some_iff.1 hj).1
    rw [Lib.byteCells_length, List.length_dropLast] at hl
    rw [← hj]
    unfold Lib.byteCells
    rw [List.getElem?_map, List.getElem?_map, List.getElem?_dropLast, if_pos hl]
theorem light_less {b : List UInt8} {d : LightD} (h : decLight b = some d) : decLight b.dropLast = none := by
  cases hx : decLight b.dropLast with
  | none => rfl
  | some d' =>
    exfalso
    obtain ⟨h1, h2, h3, _⟩ := only_light hx
    have hne : b ≠ [] := by intro e; rw [(only_light h).1] at e; simp [encLight, be64] at e; exact absurd e.1 (by intro e; have := congrArg List.length e; simp [be_length] at this)
    have hb := List.dropLast_concat_getLast hne
    rw [h1] at hb
    have := ext_light d' h3 h2 [b.getLast hne] (by simp)
    rw [hb, h] at this
    cases this

theorem lrepG {B : Nat} {w w' : World} {c : LightD} {cs : List Value} (h : c.rep B w cs) (hg : w.grownBy w' none) : c.rep B w' cs := by
  obtain ⟨a, b, d, h1, h2, h3, h4⟩ := h; exact ⟨a, b, d, rep_grown h1 hg, h2.grown hg, h3.grown hg, h4⟩

set_option maxHeartbeats 16000000 in
theorem FormOnly_any (v : Value) (b : List UInt8) (x : UInt8) (w : World) (hv : RdB w v b) :
    Calls Tryd.prog 10 #[v, .int .u8 (x.toNat : Int)] w (LawTrue w) := by
  have Hv := Lib.hid hv
  obtain ⟨ao, c, rfl, hle, hcm, hrow⟩ := hv
  have hcm' : c ≤ 9223372036854775807 := hcm
  clear hrow
  by_cases hbig : b.length ≤ 20000
  case neg =>
    have d1 : decide ((20000 : Int) < (b.length : Int)) = true := by simp; omega
    go_enter Tryd.func10, Tryd.ntmps10
    go_wp2_with fail
    refine (alive_any _).mono ?_
    rintro e w' ⟨rfl, hb⟩
    go_wp2_with fail
    go_ret
    exact ⟨rfl, hb⟩
  have d1 : decide ((20000 : Int) < (b.length : Int)) = false := by simp; omega
  have hb2 : b.length ≤ 100000000000 := by omega
  have hb3 : (b ++ [x]).length ≤ 100000000000 := by simp; omega
  go_enter Tryd.func10, Tryd.ntmps10
  go_upto_region 3 with (fail)
  clear d1
  go_upto_region 4 with (first | (refine wpList_app rfl _ _ rfl rfl (ownB_nil w) rfl (Hv.out.grown (World.grownBy_alloc w _ none)) (by simp; omega) (by simp) ?_; intro a1 n1 c1 w1 o1 b1; rw [List.nil_append] at o1) | (refine wpList_app_one rfl _ _ rfl rfl o1 x rfl rfl (by simp; omega) (by have := b1.size; simp at this; omega) ?_; intro a2 n2 c2 w2 o2 b2))
  have G := Lib.hid (below_grown (((Below.refl w.heap.size w).alloc (Nat.le_refl _) _).trans (b1.trans b2)))
  have HL := Lib.hid o2.rd
  clear o1 o2 b1 b2
  replace Hv := Lib.hid (Hv.out.grown G.out)
  have G0 := Lib.hid G.out
  obtain ⟨W, hW⟩ : ∃ W, w2 = W := ⟨_, rfl⟩
  subst hW
  replace G := Lib.hid (World.grownBy.refl w2 none)
  go_upto_region 6 with (fail)
  rw [show (Value.int .i64 0) = .int .i64 ((0 : Nat) : Int) from rfl]
  -- Vote
  go_wp2_with fail
  refine (DecodeVote_any _ b _ (Hv.out.grown G.out) hb2).mono ?_
  intro e wA0 hd
  obtain ⟨k, rfl⟩ := hd.u
  clear hd
  rw [getD_map VoteD.cells (decVote b) zVoteD ZVote rfl, errOf_map]
  have Wd := Lib.hid (decVote_wf2 b)
  obtain ⟨r, hr⟩ : ∃ r, decVote b = r := ⟨_, rfl⟩
  rw [hr] at Wd ⊢
  have Hr := Lib.hid hr; clear hr
  obtain ⟨dd, hdd⟩ : ∃ y, r.getD zVoteD = y := ⟨_, rfl⟩
  rw [hdd] at Wd ⊢
  have Hdd := Lib.hid hdd; clear hdd
  have Ld := Lib.hid (dd.cells_length Wd.out)
  replace G := Lib.hid (Lib.grownBy_trans G.out k)
  clear k
  go_wp2_with (refine wpList_alloc_as rfl 29 rfl ZVote ZVote_info ?_)
  intro wB b9 g9 s9
  have B9 := Lib.hid b9; have K9 := Lib.hid g9; clear b9 g9 s9
  go_wp2_with (refine wpList_store_whole rfl 29 _ _ rfl wA0.heap.size rfl dd.cells ZVote 29 rfl B9.out (by rw [Ld.out]; rfl) (VoteD_one dd) (sizeVote _ Ld.out) ?_)
  intro wC g8 s8 b8
  go_upto_if 50 with (fail)
  have M := Lib.hid b8
  replace G := Lib.hid (Lib.grownBy_trans G.out (grown_new K9.out g8 (Nat.le_refl _)))
  clear b8 g8 s8 K9 B9
  go_cut [6, 7] from 49 (fun s6 s7 w' => s6 = .int .i64 ((0 + cnt (decVote b) : Nat) : Int) ∧ s7 = .bool true ∧ w2.grownBy w' none)
  case first =>
    cases r with
    | none =>
      rw [show errOf (none : Option VoteD) = 61 from rfl]
      go_wp2
      go_meet
      case rel => exact ⟨by rw [Hr.out, show ∀ (D : Type), cnt (none : Option D) = 0 from fun _ => rfl]; exact congrArg (Value.int .i64) (by omega), rfl, G.out⟩
    | some d =>
      rw [show errOf (some d) = 0 from rfl]
      have hdd : d = dd := Hdd.out
      subst hdd
      obtain ⟨hb, hok, hwf, hk⟩ := only_vote Hr.out
      have hx : decVote (b ++ [x]) = none := by rw [hb]; exact ext_vote d hwf hok [x] (by simp)
      have Hb := Lib.hid hb; have Hok := Lib.hid hok; have Hx := Lib.hid hx; clear hb hok hwf hk hx
      go_wp2_with (refine wpList_load_part rfl 29 _ rfl wA0.heap.size 0 rfl d.cells _ M.out.row Tryd.underlying29 rfl (sizeVote _ Ld.out) ?_)
      refine (EncodeVote_yes d _ Wd.out Hok.out).mono ?_
      rintro e wD ⟨ae, ne, ke, rfl, oe, be⟩
      have re := oe.rd
      rw [← Hb.out] at re
      have Re := Lib.hid re
      replace G := Lib.hid (Lib.grownBy_trans G.out (below_grown be))
      clear oe be re
      have hcb : cnt (decVote b) = 1 := by rw [Hr.out]; rfl
      have hsm : 0 ≤ 4 := by have := cnt_le (decVote b); have := cnt_le (decHeader b); have := cnt_le (decLight b); have := cnt_le (decPacket b); omega
      go_wp2_with fail
      refine (DecodeVote_any _ (b ++ [x]) _ (HL.out.grown G.out) hb3).mono ?_
      intro e wE hd
      obtain ⟨k, rfl⟩ := hd.u
      clear hd
      rw [Hx.out]
      replace Re := Lib.hid (Re.out.grown k); replace G := Lib.hid (Lib.grownBy_trans G.out k)
      clear k
      rw [show ((none : Option VoteD).map VoteD.cells).getD ZVote = ZVote from rfl, show errOf ((none : Option VoteD).map VoteD.cells) = 61 from rfl]
      go_wp2_with (refine wpList_alloc_as rfl 29 rfl ZVote ZVote_info ?_)
      intro wF b9 g9 s9
      have B9 := Lib.hid b9; have K9 := Lib.hid g9; clear b9 g9 s9
      go_wp2_with (refine wpList_store_whole rfl 29 _ _ rfl wE.heap.size rfl ZVote ZVote 29 rfl B9.out rfl ZVote_one (sizeVote _ rfl) ?_)
      intro wH g8 s8 b8
      have k := grown_new K9.out g8 (Nat.le_refl _)
      replace Re := Lib.hid (Re.out.grown k); replace G := Lib.hid (Lib.grownBy_trans G.out k)
      clear b8 g8 s8 K9 B9 k
      go_wp2_with fail
      refine (Same_any _ _ b b _ Re.out (Hv.out.grown G.out)).mono ?_
      rintro e w' ⟨rfl, rfl⟩
      rw [show (b == b) = true from by simp]
      go_wp2_with fail
      go_meet
      case rel => exact ⟨by rw [hcb]; go_num, rfl, G.out⟩
  case rest =>
  obtain ⟨rfl, rfl, hg⟩ := hcut
  replace G := Lib.hid hg
  clear hg M Hr Wd Ld Hdd
  -- Header
  go_wp2_with fail
  refine (DecodeHeader_any _ b _ (Hv.out.grown G.out) hb2).mono ?_
  intro e wA1 hd
  obtain ⟨k, rfl⟩ := hd.u
  clear hd
  rw [getD_map HeaderD.cells (decHeader b) zHeader ZHeader rfl, errOf_map]
  have Wd := Lib.hid (decHeader_wf2 b)
  obtain ⟨r, hr⟩ : ∃ r, decHeader b = r := ⟨_, rfl⟩
  rw [hr] at Wd ⊢
  have Hr := Lib.hid hr; clear hr
  obtain ⟨dd, hdd⟩ : ∃ y, r.getD zHeader = y := ⟨_, rfl⟩
  rw [hdd] at Wd ⊢
  have Hdd := Lib.hid hdd; clear hdd
  have Ld := Lib.hid (dd.cells_length Wd.out)
  replace G := Lib.hid (Lib.grownBy_trans G.out k)
  clear k
  go_wp2_with (refine wpList_alloc_as rfl 57 rfl ZHeader ZHeader_info ?_)
  intro wB b9 g9 s9
  have B9 := Lib.hid b9; have K9 := Lib.hid g9; clear b9 g9 s9
  go_wp2_with (refine wpList_store_whole rfl 57 _ _ rfl wA1.heap.size rfl dd.cells ZHeader 57 rfl B9.out (by rw [Ld.out]; rfl) (HeaderD_one dd) (sizeHeader _ Ld.out) ?_)
  intro wC g8 s8 b8
  go_upto_if 83 with (fail)
  have M := Lib.hid b8
  replace G := Lib.hid (Lib.grownBy_trans G.out (grown_new K9.out g8 (Nat.le_refl _)))
  clear b8 g8 s8 K9 B9
  go_cut [6, 7] from 82 (fun s6 s7 w' => s6 = .int .i64 ((0 + cnt (decVote b) + cnt (decHeader b) : Nat) : Int) ∧ s7 = .bool true ∧ w2.grownBy w' none)
  case first =>
    cases r with
    | none =>
      rw [show errOf (none : Option HeaderD) = 61 from rfl]
      go_wp2
      go_meet
      case rel => exact ⟨by rw [Hr.out, show ∀ (D : Type), cnt (none : Option D) = 0 from fun _ => rfl]; exact congrArg (Value.int .i64) (by omega), rfl, G.out⟩
    | some d =>
      rw [show errOf (some d) = 0 from rfl]
      have hdd : d = dd := Hdd.out
      subst hdd
      obtain ⟨hb, hok, hwf, hk⟩ := only_header Hr.out
      have Hb := Lib.hid hb; have Hok := Lib.hid hok; clear hb hok hwf hk
      go_wp2_with (refine wpList_load_part rfl 57 _ rfl wA1.heap.size 0 rfl d.cells _ M.out.row Tryd.underlying57 rfl (sizeHeader _ Ld.out) ?_)
      refine (EncodeHeader_any d _ Wd.out).mono ?_
      intro e wD he
      rw [Hok.out] at he
      obtain ⟨ae, ne, ke, rfl, oe, be⟩ := he
      have re := oe.rd
      rw [← Hb.out] at re
      have Re := Lib.hid re
      replace G := Lib.hid (Lib.grownBy_trans G.out (below_grown be))
      clear oe be re
      have hcb : cnt (decHeader b) = 1 := by rw [Hr.out]; rfl
      have hsm : 0 + cnt (decVote b) ≤ 4 := by have := cnt_le (decVote b); have := cnt_le (decHeader b); have := cnt_le (decLight b); have := cnt_le (decPacket b); omega
      go_wp2_with fail
      refine (Same_any _ _ b b _ Re.out (Hv.out.grown G.out)).mono ?_
      rintro e w' ⟨rfl, rfl⟩
      rw [show (b == b) = true from by simp]
      go_wp2_with fail
      go_meet
      case rel => exact ⟨by rw [hcb]; go_num, rfl, G.out⟩
  case rest =>
  obtain ⟨rfl, rfl, hg⟩ := hcut
  replace G := Lib.hid hg
  clear hg M Hr Wd Ld Hdd
  -- Light
  go_wp2_with fail
  refine (DecodeLight_any _ b _ (Hv.out.grown G.out) hb2).mono ?_
  intro e wA2 hd
  obtain ⟨hbel, cs, rfl, ol⟩ := hd.uni
  clear hd
  obtain ⟨r, hr⟩ : ∃ r, decLight b = r := ⟨_, rfl⟩
  rw [hr] at ol ⊢
  have Hr := Lib.hid hr; clear hr
  have hwd : (r.getD zLight).wf := by
    cases hq : r with
    | none => exact zLight_wf
    | some d => exact decLight_wf (Hr.out.trans hq)
  have Wd := Lib.hid hwd; clear hwd
  obtain ⟨dd, hdd⟩ : ∃ y, r.getD zLight = y := ⟨_, rfl⟩
  rw [hdd] at Wd ol
  have Hdd := Lib.hid hdd; clear hdd
  have Ld := Lib.hid (ol.rep.length Wd.out); have One := Lib.hid ol.one; have Rp := Lib.hid ol.rep
  have k := below_grown hbel
  replace G := Lib.hid (Lib.grownBy_trans G.out k)
  clear k hbel ol
  go_wp2_with (refine wpList_alloc_as rfl 71 rfl ZLight ZLight_info ?_)
  intro wB b9 g9 s9
  have B9 := Lib.hid b9; have K9 := Lib.hid g9; clear b9 g9 s9
  go_wp2_with (refine wpList_store_whole rfl 71 _ _ rfl wA2.heap.size rfl cs ZLight 71 rfl B9.out (by rw [Ld.out]; rfl) One.out (sizeLight _ Ld.out) ?_)
  intro wC g8 s8 b8
  go_upto_if 107 with (fail)
  have M := Lib.hid b8
  have k := grown_new K9.out g8 (Nat.le_refl _)
  replace G := Lib.hid (Lib.grownBy_trans G.out k); replace Rp := Lib.hid ((lrepG Rp.out k).mono k.size)
  clear b8 g8 s8 K9 B9 k
  go_cut [6, 7] from 106 (fun s6 s7 w' => s6 = .int .i64 ((0 + cnt (decVote b) + cnt (decHeader b) + cnt (decLight b) : Nat) : Int) ∧ s7 = .bool true ∧ w2.grownBy w' none)
  case first =>
    cases r with
    | none =>
      rw [show errOf (none : Option LightD) = 61 from rfl]
      go_wp2
      go_meet
      case rel => exact ⟨by rw [Hr.out, show ∀ (D : Type), cnt (none : Option D) = 0 from fun _ => rfl]; exact congrArg (Value.int .i64) (by omega), rfl, G.out⟩
    | some d =>
      rw [show errOf (some d) = 0 from rfl]
      have hdd : d = dd := Hdd.out
      subst hdd
      obtain ⟨hb, hok, hwf, hk⟩ := only_light Hr.out
      have hx : decLight (b ++ [x]) = none := by rw [hb]; exact ext_light d hwf hok [x] (by simp)
      have hy := light_less Hr.out
      have hpos : 0 < b.length := by rw [hb]; simp [encLight, be64_length]; omega
      have Hb := Lib.hid hb; have Hok := Lib.hid hok; have Hx := Lib.hid hx; have Hy := Lib.hid hy; clear hb hok hwf hk hx hy
      go_wp2_with (refine wpList_load_part rfl 71 _ rfl wA2.heap.size 0 rfl cs _ M.out.row Tryd.underlying71 rfl (sizeLight _ Ld.out) ?_)
      refine (EncodeLight_any d cs _ Wd.out Rp.out).mono ?_
      intro e wD he
      rw [Hok.out] at he
      obtain ⟨ae, ne, ke, rfl, oe, be⟩ := he
      have re := oe.rd
      rw [← Hb.out] at re
      have Re := Lib.hid re
      replace G := Lib.hid (Lib.grownBy_trans G.out (below_grown be))
      clear oe be re
      have hcb : cnt (decLight b) = 1 := by rw [Hr.out]; rfl
      have hsm : 0 + cnt (decVote b) + cnt (decHeader b) ≤ 4 := by have := cnt_le (decVote b); have := cnt_le (decHeader b); omega
      go_wp2_with fail
      refine (DecodeLight_any _ (b ++ [x]) _ (HL.out.grown G.out) hb3).mono ?_
      intro e wElong hd
      rw [Hx.out] at hd
      obtain ⟨hbel, rfl⟩ := hd
      have k := below_grown hbel
      replace Re := Lib.hid (Re.out.grown k); replace G := Lib.hid (Lib.grownBy_trans G.out k)
      clear k hbel
      go_wp2_with (refine wpList_alloc_as rfl 71 rfl ZLight ZLight_info ?_)
      intro wF b9 g9 s9
      have B9 := Lib.hid b9; have K9 := Lib.hid g9; clear b9 g9 s9
      go_wp2_with (refine wpList_store_whole rfl 71 _ _ rfl wElong.heap.size rfl ZLight ZLight 71 rfl B9.out rfl ZLight_one (sizeLight _ ZLight_length) ?_)
      intro wH g8 s8 b8
      have k := grown_new K9.out g8 (Nat.le_refl _)
      replace Re := Lib.hid (Re.out.grown k); replace G := Lib.hid (Lib.grownBy_trans G.out k)
      clear b8 g8 s8 K9 B9 k
      have hb4 : b.dropLast.length ≤ 100000000000 := by rw [List.length_dropLast]; omega
      have m1 : max (b.length : Int) 1 = b.length := by omega
      have m2 : IntKind.i64.wrap ((b.length : Int) - 1) = ((b.length - 1 : Nat) : Int) := by simp [IntKind.wrap, IntKind.signed, IntKind.bits]; omega
      have m3 : b.length - 1 ≤ c := by omega
      go_wp2_with fail
      refine (DecodeLight_any _ (b.dropLast) _ (rd_less (Hv.out.grown G.out) hpos) hb4).mono ?_
      intro e wEless hd
      rw [Hy.out] at hd
      obtain ⟨hbel, rfl⟩ := hd
      have k := below_grown hbel
      replace Re := Lib.hid (Re.out.grown k); replace G := Lib.hid (Lib.grownBy_trans G.out k)
      clear k hbel
      go_wp2_with (refine wpList_alloc_as rfl 71 rfl ZLight ZLight_info ?_)
      intro wF b9 g9 s9
      have B9 := Lib.hid b9; have K9 := Lib.hid g9; clear b9 g9 s9
      go_wp2_with (refine wpList_store_whole rfl 71 _ _ rfl wEless.heap.size rfl ZLight ZLight 71 rfl B9.out rfl ZLight_one (sizeLight _ ZLight_length) ?_)
      intro wH g8 s8 b8
      have k := grown_new K9.out g8 (Nat.le_refl _)
      replace Re := Lib.hid (Re.out.grown k); replace G := Lib.hid (Lib.grownBy_trans G.out k)
      clear b8 g8 s8 K9 B9 k
      go_wp2_with fail
      refine (Same_any _ _ b b _ Re.out (Hv.out.grown G.out)).mono ?_
      rintro e w' ⟨rfl, rfl⟩
      rw [show (b == b) = true from by simp]
      go_wp2_with fail
      go_meet
      case rel => exact ⟨by rw [hcb]; go_num, rfl, G.out⟩
  case rest =>
  obtain ⟨rfl, rfl, hg⟩ := hcut
  replace G := Lib.hid hg
  clear hg M Hr Wd Ld Hdd One Rp
  -- Packet
  go_wp2_with fail
  refine (DecodePacket_any _ b _ (Hv.out.grown G.out) hb2).mono ?_
  intro e wA3 hd
  obtain ⟨k, rfl⟩ := hd.u
  clear hd
  rw [getD_map PacketD.cells (decPacket b) zPacketD ZPacket rfl, errOf_map]
  have Wd := Lib.hid (decPacket_wf2 b)
  obtain ⟨r, hr⟩ : ∃ r, decPacket b = r := ⟨_, rfl⟩
  rw [hr] at Wd ⊢
  have Hr := Lib.hid hr; clear hr
  obtain ⟨dd, hdd⟩ : ∃ y, r.getD zPacketD = y := ⟨_, rfl⟩
  rw [hdd] at Wd ⊢
  have Hdd := Lib.hid hdd; clear hdd
  have Ld := Lib.hid (dd.cells_length Wd.out)
  replace G := Lib.hid (Lib.grownBy_trans G.out k)
  clear k
  go_wp2_with (refine wpList_alloc_as rfl 38 rfl ZPacket ZPacket_info ?_)
  intro wB b9 g9 s9
  have B9 := Lib.hid b9; have K9 := Lib.hid g9; clear b9 g9 s9
  go_wp2_with (refine wpList_store_whole rfl 38 _ _ rfl wA3.heap.size rfl dd.cells ZPacket 38 rfl B9.out (by rw [Ld.out]; rfl) (PacketD_one dd) (sizePacket _ Ld.out) ?_)
  intro wC g8 s8 b8
  go_upto_if 154 with (fail)
  have M := Lib.hid b8
  replace G := Lib.hid (Lib.grownBy_trans G.out (grown_new K9.out g8 (Nat.le_refl _)))
  clear b8 g8 s8 K9 B9
  go_cut [6, 7] from 153 (fun s6 s7 w' => s6 = .int .i64 ((0 + cnt (decVote b) + cnt (decHeader b) + cnt (decLight b) + cnt (decPacket b) : Nat) : Int) ∧ s7 = .bool true ∧ w2.grownBy w' none)
  case first =>
    cases r with
    | none =>
      rw [show errOf (none : Option PacketD) = 61 from rfl]
      go_wp2
      go_meet
      case rel => exact ⟨by rw [Hr.out, show ∀ (D : Type), cnt (none : Option D) = 0 from fun _ => rfl]; exact congrArg (Value.int .i64) (by omega), rfl, G.out⟩
    | some d =>
      rw [show errOf (some d) = 0 from rfl]
      have hdd : d = dd := Hdd.out
      subst hdd
      obtain ⟨hb, hok, hwf, hk⟩ := only_packet Hr.out
      have hx : decPacket (b ++ [x]) = none := by rw [hb]; exact ext_packet d hwf hok [x] (by simp)
      have Hb := Lib.hid hb; have Hok := Lib.hid hok; have Hx := Lib.hid hx; clear hb hok hwf hk hx
      go_wp2_with (refine wpList_load_part rfl 38 _ rfl wA3.heap.size 0 rfl d.cells _ M.out.row Tryd.underlying38 rfl (sizePacket _ Ld.out) ?_)
      refine (EncodePacket_yes d _ Wd.out Hok.out).mono ?_
      rintro e wD ⟨ae, ne, ke, rfl, oe, be⟩
      have re := oe.rd
      rw [← Hb.out] at re
      have Re := Lib.hid re
      replace G := Lib.hid (Lib.grownBy_trans G.out (below_grown be))
      clear oe be re
      have hcb : cnt (decPacket b) = 1 := by rw [Hr.out]; rfl
      have hsm : 0 + cnt (decVote b) + cnt (decHeader b) + cnt (decLight b) ≤ 4 := by have := cnt_le (decVote b); have := cnt_le (decHeader b); have := cnt_le (decLight b); have := cnt_le (decPacket b); omega
      go_wp2_with fail
      refine (DecodePacket_any _ (b ++ [x]) _ (HL.out.grown G.out) hb3).mono ?_
      intro e wE hd
      obtain ⟨k, rfl⟩ := hd.u
      clear hd
      rw [Hx.out]
      replace Re := Lib.hid (Re.out.grown k); replace G := Lib.hid (Lib.grownBy_trans G.out k)
      clear k
      rw [show ((none : Option PacketD).map PacketD.cells).getD ZPacket = ZPacket from rfl, show errOf ((none : Option PacketD).map PacketD.cells) = 61 from rfl]
      go_wp2_with (refine wpList_alloc_as rfl 38 rfl ZPacket ZPacket_info ?_)
      intro wF b9 g9 s9
      have B9 := Lib.hid b9; have K9 := Lib.hid g9; clear b9 g9 s9
      go_wp2_with (refine wpList_store_whole rfl 38 _ _ rfl wE.heap.size rfl ZPacket ZPacket 38 rfl B9.out rfl ZPacket_one (sizePacket _ rfl) ?_)
      intro wH g8 s8 b8
      have k := grown_new K9.out g8 (Nat.le_refl _)
      replace Re := Lib.hid (Re.out.grown k); replace G := Lib.hid (Lib.grownBy_trans G.out k)
      clear b8 g8 s8 K9 B9 k
      go_wp2_with fail
      refine (Same_any _ _ b b _ Re.out (Hv.out.grown G.out)).mono ?_
      rintro e w' ⟨rfl, rfl⟩
      rw [show (b == b) = true from by simp]
      go_wp2_with fail
      go_meet
      case rel => exact ⟨by rw [hcb]; go_num, rfl, G.out⟩
  case rest =>
  obtain ⟨rfl, rfl, hg⟩ := hcut
  replace G := Lib.hid hg
  clear hg M Hr Wd Ld Hdd
  -- Proof
  go_wp2_with fail
  refine (DecodeProof_any _ b _ (Hv.out.grown G.out) hb2).mono ?_
  rintro e wA4 ⟨hbel, cs, rfl, ol⟩
  have hwd := decProof_wf b
  obtain ⟨r, hr⟩ : ∃ r, decProof b = r := ⟨_, rfl⟩
  rw [hr] at ol hwd ⊢
  have Hr := Lib.hid hr; clear hr
  have Wd := Lib.hid hwd; clear hwd
  obtain ⟨dd, hdd⟩ : ∃ y, r.getD zProof = y := ⟨_, rfl⟩
  rw [hdd] at Wd ol
  have Hdd := Lib.hid hdd; clear hdd
  have Ld := Lib.hid ol.length; have One := Lib.hid ol.one; have Rp := Lib.hid ol.rep
  have k := below_grown hbel
  replace G := Lib.hid (Lib.grownBy_trans G.out k)
  clear k hbel ol
  go_wp2_with (refine wpList_alloc_as rfl 41 rfl ZProof ZProof_info ?_)
  intro wB b9 g9 s9
  have B9 := Lib.hid b9; have K9 := Lib.hid g9; clear b9 g9 s9
  go_wp2_with (refine wpList_store_whole rfl 41 _ _ rfl wA4.heap.size rfl cs ZProof 41 rfl B9.out (by rw [Ld.out]; rfl) One.out (by rw [Ld.out]; exact sizeProof) ?_)
  intro wC g8 s8 b8
  go_upto_if 187 with (fail)
  have M := Lib.hid b8
  have k := grown_new K9.out g8 (Nat.le_refl _)
  replace G := Lib.hid (Lib.grownBy_trans G.out k); replace Rp := Lib.hid ((Rp.out.gr k).mono k.size)
  clear b8 g8 s8 K9 B9 k
  go_cut [6, 7] from 186 (fun s6 s7 w' => s6 = .int .i64 ((0 + cnt (decVote b) + cnt (decHeader b) + cnt (decLight b) + cnt (decPacket b) + cnt (decProof b) : Nat) : Int) ∧ s7 = .bool true ∧ w2.grownBy w' none)
  case first =>
    cases r with
    | none =>
      rw [show errOf (none : Option ProofD) = 61 from rfl]
      go_wp2
      go_meet
      case rel => exact ⟨by rw [Hr.out, show ∀ (D : Type), cnt (none : Option D) = 0 from fun _ => rfl]; exact congrArg (Value.int .i64) (by omega), rfl, G.out⟩
    | some d =>
      rw [show errOf (some d) = 0 from rfl]
      have hdd : d = dd := Hdd.out
      subst hdd
      obtain ⟨hb, hok, hwf, hk⟩ := only_proof Hr.out
      have hx : decProof (b ++ [x]) = none := by rw [hb]; exact ext_proof d hwf hok [x] (by simp)
      have Hb := Lib.hid hb; have Hok := Lib.hid hok; have Hx := Lib.hid hx; clear hb hok hwf hk hx
      go_wp2_with (refine wpList_load_part rfl 41 _ rfl wA4.heap.size 0 rfl cs _ M.out.row Tryd.underlying41 rfl (by rw [Ld.out]; exact sizeProof) ?_)
      refine (EncodeProof_any d cs _ Wd.out Rp.out).mono ?_
      intro e wD he
      rw [Hok.out] at he
      obtain ⟨ae, ne, ke, rfl, oe, be⟩ := he
      have re := oe.rd
      rw [← Hb.out] at re
      have Re := Lib.hid re
      replace G := Lib.hid (Lib.grownBy_trans G.out (below_grown be))
      clear oe be re
      have hcb : cnt (decProof b) = 1 := by rw [Hr.out]; rfl
      have hsm : 0 + cnt (decVote b) + cnt (decHeader b) + cnt (decLight b) + cnt (decPacket b) ≤ 4 := by have := cnt_le (decVote b); have := cnt_le (decHeader b); have := cnt_le (decLight b); have := cnt_le (decPacket b); omega
      go_wp2_with fail
      refine (DecodeProof_any _ (b ++ [x]) _ (HL.out.grown G.out) hb3).mono ?_
      intro e wE hd
      unfold DecodesP at hd
      rw [Hx.out] at hd
      obtain ⟨hbel, cs2, rfl, o2⟩ := hd
      have L2 := Lib.hid o2.length; have N2 := Lib.hid o2.one
      have k := below_grown hbel
      replace Re := Lib.hid (Re.out.grown k); replace G := Lib.hid (Lib.grownBy_trans G.out k)
      clear k hbel o2
      rw [show errOf (none : Option ProofD) = 61 from rfl]
      go_wp2_with (refine wpList_alloc_as rfl 41 rfl ZProof ZProof_info ?_)
      intro wF b9 g9 s9
      have B9 := Lib.hid b9; have K9 := Lib.hid g9; clear b9 g9 s9
      go_wp2_with (refine wpList_store_whole rfl 41 _ _ rfl wE.heap.size rfl cs2 ZProof 41 rfl B9.out (by rw [L2.out]; rfl) N2.out (by rw [L2.out]; exact sizeProof) ?_)
      intro wH g8 s8 b8
      have k := grown_new K9.out g8 (Nat.le_refl _)
      replace Re := Lib.hid (Re.out.grown k); replace G := Lib.hid (Lib.grownBy_trans G.out k)
      clear b8 g8 s8 K9 B9 k
      go_wp2_with fail
      refine (Same_any _ _ b b _ Re.out (Hv.out.grown G.out)).mono ?_
      rintro e w' ⟨rfl, rfl⟩
      rw [show (b == b) = true from by simp]
      go_wp2_with fail
      go_meet
      case rel => exact ⟨by rw [hcb]; go_num, rfl, G.out⟩
  case rest =>
  obtain ⟨rfl, rfl, hg⟩ := hcut
  replace G := Lib.hid hg
  clear hg M Hr Wd Ld Hdd One Rp
  have hsum := cnt_sum b
  obtain ⟨n, hn⟩ : ∃ n, 0 + cnt (decVote b) + cnt (decHeader b) + cnt (decLight b) + cnt (decPacket b) + cnt (decProof b) = n := ⟨_, rfl⟩
  rw [hn] at hsum ⊢
  have dn : decide ((n : Int) ≤ 1) = true := by simp; omega
  clear hn
  go_wp2_with fail
  refine (alive_any _).mono ?_
  rintro e w' ⟨rfl, hb⟩
  go_wp2_with fail
  go_ret
  exact ⟨rfl, below_of_grown (Lib.grownBy_trans G0.out (Lib.grownBy_trans G.out (below_grown hb)))⟩

end Go.Proofs.YtaffpgafbjhahaaDoor
