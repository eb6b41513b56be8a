/- Walks: nuncioref02.Reader. Walks: nuncioref02.Reader's Text.. Walks: nuncioref02.Reader's Hash. -/
import Derived.Test.YtcbkehnlgpcelaaGreatDoorDecPacket
import Derived.Test.YtcbkehnlgpcelaaGreatDoorReadH
import Derived.Deep.OwnRows
import Derived.Deep.QuietTactic
import Derived.BigQuiet
namespace Go.Proofs.YtcbkehnlgpcelaaGreatDoor
open Go.RowKit
set_option maxRecDepth 100000

/-- the document's taking: so many bytes, or noughts -/
def rdTake (n : Nat) (st : RS) : List UInt8 × RS := match st with
  | none => (List.replicate n 0, none)
  | some l => if n ≤ l.length then (l.take n, some (l.drop n)) else (List.replicate n 0, none)
theorem rdTake_len (n : Nat) (st : RS) : (rdTake n st).1.length = n := by
  unfold rdTake
  cases st with
  | none => simp
  | some l => dsimp only; split <;> simp <;> omega
theorem IsR.none_of {w : World} {p : Nat} {l : List UInt8} (h : IsR w p (some l)) : IsR (w.setCell ⟨p, 1, none⟩ (.bool true)) p none := h.breaks
theorem IsR.again {w : World} {p : Nat} (h : IsR w p none) : IsR (w.setCell ⟨p, 1, none⟩ (.bool true)) p none := by
  obtain ⟨f0, f1, ⟨ao, n, c, h3⟩, h4⟩ := h
  exact ⟨by simpa using f0, by simpa using f1, ⟨ao, n, c, (World.cell?_setCell_other _ _ _ _ (by simp)).trans h3⟩, World.cell?_setCell_same' _ _ _ (by rw [h4]; rfl)⟩
theorem zeros_rd (w : World) (m n : Nat) (hm : w.heap.size = m) (hn : n ≤ maxLen) : RdB (w.alloc (.cells (madeCells #[.int .u8 0] n) 5)) (.slice (some ⟨m, 0, none⟩) n n) (List.replicate n 0) := by
  subst hm
  refine ⟨some ⟨w.heap.size, 0, none⟩, n, by simp, by simp, hn, Or.inr ⟨w.heap.size, 0, rfl, by simp, fun j v hj => ?_⟩⟩
  rw [Nat.zero_add, Lib.cell_of_heap (heap_alloc_new w _), ← Array.getElem?_toList, toList_madeCells_one]
  simpa [Lib.byteCells] using hj

set_option maxHeartbeats 400000 in
theorem qtake_none (p n : Nat) (w : World) (h : IsR w p none) (hn : n ≤ 1000000) :
    Calls Tryz.prog 149 #[.pointer (some ⟨p, 0, none⟩), .int .i64 n] w fun e w' => ∃ v, e = .returned v ∧ RdB w' v (List.replicate n 0) ∧ IsR w' p none ∧ w.grownBy w' (some p) := by
  have hmk := run_make_row' (P := Tryz.prog) 27 5 (.int .u8 0) 1 Tryz.underlying27 (by kernel_rfl) rfl .i64 .i64 n (by omega) (by omega)
  have H := Lib.hid h; have Hn := Lib.hid hn
  obtain ⟨f0, f1, _, h4⟩ := h
  clear hn
  go_enter Tryz.func149, Tryz.ntmps149
  go_wp2
  go_ret
  refine ⟨_, rfl, zeros_rd _ _ n (by simp [World.setCell]) (by have := Hn.out; unfold maxLen; omega), H.out.again.grown (World.grownBy_alloc _ _ none), ?_⟩
  exact Lib.grownBy_trans (Lib.grownBy_setCell w p 1 _) (World.grownBy_alloc _ _ _)

set_option maxHeartbeats 400000 in
theorem qtake_short (p n : Nat) (l : List UInt8) (w : World) (h : IsR w p (some l)) (hl : l.length < n) (hn : n ≤ 1000000) :
    Calls Tryz.prog 149 #[.pointer (some ⟨p, 0, none⟩), .int .i64 n] w fun e w' => ∃ v, e = .returned v ∧ RdB w' v (List.replicate n 0) ∧ IsR w' p none ∧ w.grownBy w' (some p) := by
  have hmk := run_make_row' (P := Tryz.prog) 27 5 (.int .u8 0) 1 Tryz.underlying27 (by kernel_rfl) rfl .i64 .i64 n (by omega) (by omega)
  have H := Lib.hid h; have Hn := Lib.hid hn
  obtain ⟨f0, f1, h3, ao, c, h4, _⟩ := h
  have d : decide ((l.length : Nat) < n) = true := by simp; omega
  clear hn
  go_enter Tryz.func149, Tryz.ntmps149
  go_wp2
  go_ret
  refine ⟨_, rfl, zeros_rd _ _ n (by simp [World.setCell]) (by have := Hn.out; unfold maxLen; omega), H.out.breaks.grown (World.grownBy_alloc _ _ none), ?_⟩
  exact Lib.grownBy_trans (Lib.grownBy_setCell w p 1 _) (World.grownBy_alloc _ _ _)

set_option maxHeartbeats 400000 in
theorem qtake_ok (p n : Nat) (l : List UInt8) (w : World) (h : IsR w p (some l)) (hn : n ≤ l.length) :
    Calls Tryz.prog 149 #[.pointer (some ⟨p, 0, none⟩), .int .i64 n] w fun e w' => ∃ v, e = .returned v ∧ RdB w' v (l.take n) ∧ IsR w' p (some (l.drop n)) ∧ w.grownBy w' (some p) := by
  have Hh := Lib.hid h
  obtain ⟨f0, _, h3, ao, c, h4, h5, h6, h7⟩ := h
  have d : decide ((l.length : Nat) < n) = false := by simp; omega
  have H7 := Lib.hid h7
  unfold maxLen at h6
  clear h7
  go_enter Tryz.func149, Tryz.ntmps149
  go_wp2
  · have hc : c = n := by assumption
    go_ret
    have := take_end (ao' := ao) Hh.out hn h4 h5 h6 H7.out (Or.inl ⟨rfl, hc⟩)
    subst hc
    rw [Nat.sub_self] at this
    exact ⟨_, rfl, this⟩
  · go_ret
    exact ⟨_, rfl, take_end Hh.out hn h4 h5 h6 H7.out (Or.inr rfl)⟩

theorem qtake (p n : Nat) (st : RS) (w : World) (h : IsR w p st) (hn : n ≤ 1000000) :
    Calls Tryz.prog 149 #[.pointer (some ⟨p, 0, none⟩), .int .i64 n] w fun e w' => ∃ v, e = .returned v ∧ RdB w' v (rdTake n st).1 ∧ IsR w' p (rdTake n st).2 ∧ w.grownBy w' (some p) := by
  cases st with
  | none => exact qtake_none p n w h hn
  | some l =>
    by_cases hl : n ≤ l.length
    · simp only [rdTake, if_pos hl]; exact qtake_ok p n l w h hl
    · simp only [rdTake, if_neg hl]; exact qtake_short p n l w h (by omega) hn

theorem ofBe_zeros (n : Nat) : ofBe (List.replicate n 0) = 0 := by
  induction n with
  | zero => rfl
  | succ n ih => rw [List.replicate_succ']; rw [ofBe_snoc, ih]; rfl
theorem rdTake_word (st : RS) : ofBe (rdTake 8 st).1 = (rdWord st).1 ∧ (rdTake 8 st).2 = (rdWord st).2 := by
  cases st with
  | none => exact ⟨ofBe_zeros 8, rfl⟩
  | some l =>
    by_cases hl : 8 ≤ l.length
    · simp [rdTake, rdWord, if_pos hl]
    · simp only [rdTake, rdWord, if_neg hl]; exact ⟨ofBe_zeros 8, trivial⟩

theorem add_byte (a : Nat) (u : UInt8) (ha : a < 256 ^ 7) : IntKind.u64.wrap (IntKind.u64.wrap ((a : Int) * 256) + IntKind.u64.wrap (u.toNat : Int)) = ((a * 256 + u.toNat : Nat) : Int) := by
  have hu : u.toNat < 256 := u.toNat_lt
  have ha' : a < 72057594037927936 := by simpa using ha
  rw [IntKind.wrap_u64, IntKind.wrap_u64, IntKind.wrap_u64, Int.emod_eq_of_lt (a := (a : Int) * 256) (by omega) (by omega), Int.emod_eq_of_lt (a := (u.toNat : Int)) (by omega) (by omega), Int.emod_eq_of_lt (by omega) (by omega)]
  omega

set_option maxHeartbeats 400000 in
theorem QWord (p : Nat) (st : RS) (w : World) (h : IsR w p st) :
    Calls Tryz.prog 117 #[.pointer (some ⟨p, 0, none⟩)] w (Reads (.int .u64 (rdWord st).1) (rdWord st).2 p w) := by
  have C := Lib.hid (qtake p 8 st w h (by omega))
  have hw := rdTake_word st
  have hlen := rdTake_len 8 st
  generalize rdTake 8 st = X at *
  obtain ⟨L, st2⟩ := X
  have HW := Lib.hid hw; have Hlen := Lib.hid hlen
  clear h hw hlen
  go_enter Tryz.func117, Tryz.ntmps117
  go_wp2_with fail
  refine C.out.mono ?_
  rintro e w1 ⟨v, rfl, hr, h2, h3⟩
  have H2 := Lib.hid h2; have H3 := Lib.hid h3
  obtain ⟨ao, c, rfl, _, hc, h7⟩ := hr
  rcases h7 with ⟨_, h7, _⟩ | ⟨g, o, rfl, hg, hrow⟩
  · have := Hlen.out; rw [show L = [] from h7] at this; simp at this
  have Hrow := Lib.hid hrow
  have hl8 : L.length = 8 := Hlen.out
  rw [show (L, st2).1.length = 8 from hl8]
  clear h2 h3 hrow C hc hl8
  go_wp2_with fail
  go_loop [4, 5] (fun x i => ∃ k : Nat, k ≤ 8 ∧ i = .int .i64 k ∧ ∃ a : Nat, x = .int .u64 a ∧ a < 256 ^ k ∧ a = ofBe (L.take k)) (fun _ i => 8 - (intOf i).toNat)
  case atStart => exact ⟨0, Nat.zero_le _, rfl, 0, rfl, by simp, rfl⟩
  case round =>
    obtain ⟨k, hk, rfl, a, rfl, ha, hx⟩ := hrel
    have Ha := Lib.hid ha; have Hx := Lib.hid hx; clear ha hx
    by_cases hlt : k < 8
    · have hk2 : k < L.length := by rw [show L.length = 8 from Hlen.out]; exact hlt
      have hcell := Hrow.out k _ (byteCells_get _ k hk2)
      obtain ⟨u, hu⟩ : ∃ u, u = L[k] := ⟨_, rfl⟩
      rw [← hu] at hcell
      have hs : ofBe (L.take (k + 1)) = ofBe (L.take k) * 256 + u.toNat := by rw [List.take_succ_eq_append_getElem hk2, ofBe_snoc, ← hu]
      have Hs := Lib.hid hs
      clear hk2 hu hs
      go_wp2
      have h7 : a < 256 ^ 7 := Nat.lt_of_lt_of_le Ha.out (Nat.pow_le_pow_right (by decide) (by omega))
      refine ⟨⟨k + 1, by omega, by go_num, a * 256 + u.toNat, by rw [add_byte a u h7], pow_step a k u Ha.out, by rw [Hs.out, Hx.out]⟩, by simp [intOf]; omega⟩
    · go_wp2
      go_ret
      have hkn : k = 8 := by omega
      subst hkn
      have e : ofBe L = a := by rw [Hx.out, List.take_of_length_le (by rw [show L.length = 8 from Hlen.out]; omega)]
      have h1 := HW.out.1
      have h2 := HW.out.2
      rw [e] at h1
      exact ⟨by rw [← h1]; rfl, by rw [← h2]; exact H2.out, H3.out⟩

set_option maxHeartbeats 400000 in
theorem QNumber (p : Nat) (st : RS) (w : World) (h : IsR w p st) :
    Calls Tryz.prog 114 #[.pointer (some ⟨p, 0, none⟩)] w (Reads (.int .i64 (rdNum st).1) (rdNum st).2 p w) := by
  have C := Lib.hid (QWord p st w h)
  clear h
  go_enter Tryz.func114, Tryz.ntmps114
  go_wp2_with (go_at_call 117; refine C.out.mono ?_; rintro e w' ⟨rfl, h1, h2⟩)
  go_ret
  exact ⟨rfl, h1, h2⟩

set_option maxHeartbeats 400000 in
theorem QEnd (p : Nat) (st : RS) (w : World) (h : IsRe w p st) :
    Calls Tryz.prog 122 #[.pointer (some ⟨p, 0, none⟩)] w fun e w' => e = .returned (.int .i64 (rdEnd st)) ∧ w = w' := by
  cases st with
  | none =>
    have c1 : w.cell? ⟨p, 1, none⟩ = some (.bool true) := h
    clear h
    go_enter Tryz.func122, Tryz.ntmps122
    go_wp2
    go_ret
    exact ⟨rfl, rfl⟩
  | some l =>
    obtain ⟨h1, ao, c, h2, _, _⟩ := h
    cases l with
    | nil =>
      go_enter Tryz.func122, Tryz.ntmps122
      go_wp2
      go_ret
      exact ⟨rfl, rfl⟩
    | cons x l =>
      have d : decide (0 < (x :: l).length) = true := by simp
      generalize (x :: l).length = n at *
      go_enter Tryz.func122, Tryz.ntmps122
      go_wp2
      go_ret
      exact ⟨rfl, rfl⟩

def qText (st : RS) : List UInt8 × RS :=
  if 4096 < ofBe (rdTake 2 st).1 then ([], none) else
  match (rdTake (ofBe (rdTake 2 st).1) (rdTake 2 st).2).2 with
  | none => ([], none)
  | some l => ((rdTake (ofBe (rdTake 2 st).1) (rdTake 2 st).2).1, some l)
theorem qText_eq (st : RS) : qText st = rdText st := by
  unfold qText rdText
  cases st with
  | none => rfl
  | some l =>
    by_cases h2 : 2 ≤ l.length
    · simp only [rdTake, if_pos h2]
      by_cases h4 : 4096 < ofBe (l.take 2)
      · rw [if_pos h4, if_neg (by omega)]
      · rw [if_neg h4]
        by_cases h5 : ofBe (l.take 2) ≤ (l.drop 2).length
        · rw [if_pos h5, if_pos ⟨h2, by omega, h5⟩]
        · rw [if_neg h5, if_neg (fun h => h5 h.2.2)]
    · simp only [rdTake, if_neg h2]
      rw [if_neg (show ¬ 4096 < ofBe (List.replicate 2 0) by rw [ofBe_zeros]; omega), if_neg (fun h => h2 h.1)]
theorem two_bytes {L : List UInt8} (h : L.length = 2) : ∃ a b : UInt8, L = [a, b] := by
  match L, h with
  | [a, b], _ => exact ⟨a, b, rfl⟩

/-- a text, behind its length -/
def qRest (n : Nat) (st2 : RS) : List UInt8 × RS := if 4096 < n then ([], none) else match (rdTake n st2).2 with | none => ([], none) | some l => ((rdTake n st2).1, some l)
theorem qText_rest (st : RS) : qText st = qRest (ofBe (rdTake 2 st).1) (rdTake 2 st).2 := rfl

set_option maxHeartbeats 400000 in
theorem QText (p : Nat) (st : RS) (w : World) (h : IsR w p st) :
    Calls Tryz.prog 115 #[.pointer (some ⟨p, 0, none⟩)] w (Reads (.string ⟨(rdText st).1.toArray⟩) (rdText st).2 p w) := by
  have C := Lib.hid (qtake p 2 st w h (by omega))
  have hT := Lib.hid (qText_eq st)
  have hlen := rdTake_len 2 st
  rw [← hT.out]
  rw [qText_rest]
  generalize rdTake 2 st = X at *
  obtain ⟨L, st2⟩ := X
  obtain ⟨x, y, rfl⟩ := two_bytes hlen
  have hof : ofBe [x, y] = x.toNat * 256 + y.toNat := by simp [ofBe]
  have hx : x.toNat < 256 := x.toNat_lt
  have hy : y.toNat < 256 := y.toNat_lt
  simp only [hof]
  obtain ⟨n, hn⟩ : ∃ n, x.toNat * 256 + y.toNat = n := ⟨_, rfl⟩
  rw [hn]
  obtain ⟨r, hr⟩ : ∃ r, qRest n st2 = r := ⟨_, rfl⟩
  rw [hr]
  have HRr := Lib.hid hr
  clear h hT hlen hof hr
  go_enter Tryz.func115, Tryz.ntmps115
  go_wp2_with fail
  refine C.out.mono ?_
  rintro e w1 ⟨v, rfl, hr, h2, h3⟩
  have H2 := Lib.hid h2; have H3 := Lib.hid h3
  obtain ⟨ao, c, rfl, _, hc, h7⟩ := hr
  rcases h7 with ⟨_, h7, _⟩ | ⟨g, o, rfl, hg, hrow⟩
  · cases h7
  have c0 : w1.cell? ⟨g, o, none⟩ = some (.int .u8 x.toNat) := by have := hrow 0 _ rfl; rwa [Nat.add_zero] at this
  have c1 : w1.cell? ⟨g, o + 1, none⟩ = some (.int .u8 y.toNat) := hrow 1 _ rfl
  have hw1 : wrap64 (x.toNat : Int) = x.toNat := IntWalk.wrap64_in _ ⟨by omega, by omega⟩
  have hw2 : wrap64 (y.toNat : Int) = y.toNat := IntWalk.wrap64_in _ ⟨by omega, by omega⟩
  have hw3 : wrap64 ((x.toNat : Int) * 256) = (x.toNat : Int) * 256 := IntWalk.wrap64_in _ ⟨by omega, by omega⟩
  clear h2 h3 hrow C hc
  go_wp2_with fail
  go_quiet (fail)
  clear hw1 hw2 hw3 hx hy c0 c1
  have Hn := Lib.hid hn
  clear hn
  have hn9 : ((x.toNat : Int) * 256 + (y.toNat : Int)) = (n : Int) := by have := Hn.out; omega
  rw [hn9]
  clear hn9 Hn
  generalize hW : w1.drewN nq = W
  have hR : IsR W p st2 := by rw [← hW]; exact H2.out
  have hG : w.grownBy W (some p) := by rw [← hW]; exact ⟨H3.out.os, H3.out.tape, H3.out.output, H3.out.size, H3.out.block⟩
  clear hW H2 H3
  have HR := Lib.hid hR; have HG := Lib.hid hG
  clear hR hG
  by_cases h4 : 4096 < n
  · have d4 : decide ((4096 : Int) < (n : Int)) = true := by simp; omega
    have hr := HRr.out
    unfold qRest at hr
    rw [if_pos h4] at hr
    subst hr
    clear h4
    obtain ⟨f0, f1, hst⟩ := id HR.out
    have hb : ∃ b, W.cell? ⟨p, 1, none⟩ = some (.bool b) := by
      cases st2 with
      | none => exact ⟨_, hst.2⟩
      | some l => exact ⟨_, hst.1⟩
    obtain ⟨b, hb⟩ := hb
    clear hst
    go_wp2
    go_ret
    refine ⟨rfl, ?_, Lib.grownBy_trans HG.out (Lib.grownBy_setCell W p 1 _)⟩
    cases st2 with
    | none => exact HR.out.again
    | some l => exact HR.out.breaks
  · have D := Lib.hid (qtake p n st2 W HR.out (by omega))
    have d4 : decide ((4096 : Int) < (n : Int)) = false := by simp; omega
    have hr := HRr.out
    unfold qRest at hr
    rw [if_neg h4] at hr
    have Hr2 := Lib.hid hr
    clear h4 hr
    generalize rdTake n st2 = Y at *
    obtain ⟨M, st3⟩ := Y
    go_wp2_with fail
    refine D.out.mono ?_
    rintro e w3 ⟨v, rfl, k1, k2, k3⟩
    have hconv := k1.conv
    have K2 := Lib.hid k2; have K3 := Lib.hid k3
    have hr := Hr2.out
    cases st3 with
    | none =>
      obtain rfl : (([], none) : List UInt8 × RS) = r := hr
      obtain ⟨_, _, _, c1⟩ := id k2
      clear k1 k2 k3 D hconv
      go_wp2
      go_ret
      exact ⟨rfl, K2.out, Lib.grownBy_trans HG.out K3.out⟩
    | some l3 =>
      obtain rfl : ((M, some l3) : List UInt8 × RS) = r := hr
      obtain ⟨_, _, c1, _⟩ := id k2
      clear k1 k2 k3 D
      go_wp2
      go_ret
      exact ⟨rfl, K2.out, Lib.grownBy_trans HG.out K3.out⟩

def qCount (most : Int) (st : RS) : Int × RS := if (rdNum st).1 < 0 ∨ most < (rdNum st).1 then (0, none) else rdNum st
theorem qCount_eq (most : Int) (st : RS) (_hm : 0 ≤ most) : qCount most st = rdCount most st := by
  unfold qCount rdCount
  cases st with
  | none => simp [rdNum, rdWord, wrap64]
  | some l =>
    by_cases hl : 8 ≤ l.length
    · have e : rdNum (some l) = (wrap64 (ofBe (l.take 8)), some (l.drop 8)) := by simp [rdNum, rdWord, hl]
      rw [e]
      dsimp only
      by_cases h : 0 ≤ wrap64 (ofBe (l.take 8)) ∧ wrap64 (ofBe (l.take 8)) ≤ most
      · rw [if_neg (by omega), if_pos ⟨hl, h.1, h.2⟩]
      · rw [if_pos (by omega), if_neg (fun k => h ⟨k.2.1, k.2.2⟩)]
    · have e : rdNum (some l) = (0, none) := by simp [rdNum, rdWord, hl, wrap64]
      rw [e]
      dsimp only
      rw [if_neg (show ¬ (8 ≤ l.length ∧ 0 ≤ wrap64 (ofBe (l.take 8)) ∧ wrap64 (ofBe (l.take 8)) ≤ most) from fun k => hl k.1)]
      split <;> rfl

def part32 (L : List UInt8) (k : Nat) : List UInt8 := L.take k ++ List.replicate (32 - k) 0
theorem part32_len (L : List UInt8) (k : Nat) (h : L.length = 32) (hk : k ≤ 32) : (part32 L k).length = 32 := by simp [part32]; omega

set_option maxHeartbeats 400000 in
theorem QHash (p : Nat) (st : RS) (w : World) (h : IsR w p st) :
    Calls Tryz.prog 116 #[.pointer (some ⟨p, 0, none⟩)] w (Reads (.agg (Lib.byteCells (rdTake 32 st).1).toArray) (rdTake 32 st).2 p w) := by
  have H := Lib.hid h
  have hlen := rdTake_len 32 st
  have C := fun w1 (h1 : IsR w1 p st) => qtake p 32 st w1 h1 (by omega)
  generalize rdTake 32 st = X at *
  obtain ⟨L, st2⟩ := X
  have Hlen := Lib.hid hlen
  have HC := Lib.hid C
  clear h hlen C
  go_enter Tryz.func116, Tryz.ntmps116
  go_wp2_with (refine wpList_alloc_as rfl 26 rfl ZH ZH_info ?_)
  intro W1 b1 g1 s1
  have B1 := Lib.hid b1; have G1 := Lib.hid g1
  clear b1 g1 s1
  go_wp2_with fail
  refine (HC.out W1 (H.out.grown G1.out)).mono ?_
  rintro e w2 ⟨v, rfl, hr, h2, h3⟩
  have H2 := Lib.hid h2; have H3 := Lib.hid h3
  obtain ⟨ao, c, rfl, _, hc, h7⟩ := hr
  have hl32 : L.length = 32 := Hlen.out
  rcases h7 with ⟨_, h7, _⟩ | ⟨g, o, rfl, hg, hrow⟩
  · rw [show L = [] from h7] at hl32; cases hl32
  have Hrow := Lib.hid hrow; have Hg := Lib.hid hg
  rw [show (L, st2).1.length = 32 from hl32]
  clear h2 h3 hrow hc hl32 hg
  go_wp2_with (refine wpList_alloc_as rfl 26 rfl ZH ZH_info ?_)
  intro w3 b3 g3 s3
  have B3 := Lib.hid b3; have G3 := Lib.hid g3
  clear b3 g3 s3
  go_wp2_with fail
  go_loopw [5] (fun i wr => ∃ k : Nat, k ≤ 32 ∧ i = .int .i64 k ∧ Blk wr w2.heap.size (Lib.byteCells (part32 L k)) 26 ∧ w3.grownBy wr (some w2.heap.size)) (fun i _ => 32 - (intOf i).toNat)
  case atStart => exact ⟨0, Nat.zero_le _, rfl, B3.out, World.grownBy.refl _ _⟩
  case round =>
    obtain ⟨k, hk, rfl, hb, hgr⟩ := hrel
    have Hb := Lib.hid hb; have Hgr := Lib.hid hgr
    clear hb hgr
    have hl32 : L.length = 32 := Hlen.out
    by_cases hlt : k < 32
    · have hk2 : k < L.length := by omega
      have hk3 : k < (part32 L k).length := by rw [part32_len L k hl32 hk]; exact hlt
      have hcell := (Hrow.out.grown (Lib.grownBy_trans (grown_none G3.out) Hgr.out) (by have := Hg.out; simp; omega)) k _ (byteCells_get _ k hk2)
      have hold := Hb.out.row k _ (byteCells_get _ k hk3)
      rw [Nat.zero_add] at hold
      obtain ⟨y, hy⟩ : ∃ y, y = Value.int .u8 ((part32 L k)[k].toNat : Int) := ⟨_, rfl⟩
      rw [← hy] at hold
      clear hy
      have hfr := Hb.out.frozen k
      have hs : part32 L (k + 1) = (part32 L k).set k L[k] := by
        unfold part32
        rw [List.set_append, if_neg (by rw [List.length_take]; omega), List.length_take, Nat.min_eq_left (by omega), Nat.sub_self, List.take_succ_eq_append_getElem hk2, show 32 - k = (32 - (k + 1)) + 1 by omega, List.replicate_succ, List.set_cons_zero, List.append_assoc]; rfl
      obtain ⟨u, hu⟩ : ∃ u, u = L[k] := ⟨_, rfl⟩
      rw [← hu] at hcell hs
      have Hs := Lib.hid hs
      clear hk2 hk3 hu hs hl32
      go_wp2
      refine ⟨⟨k + 1, by omega, by go_num, ?_, ?_⟩, by simp [intOf]; omega⟩
      · have := heap_setCell_same Hb.out k (.int .u8 u.toNat)
        rw [Hs.out]
        unfold Blk Lib.byteCells
        rw [List.map_set]
        simpa [Lib.byteCells] using this
      · exact Lib.grownBy_trans Hgr.out (Lib.grownBy_setCell _ _ _ _)
    · have hk32 : k = 32 := by omega
      subst hk32
      have hp : part32 L 32 = L := by unfold part32; rw [List.take_of_length_le (by omega)]; simp
      have hb := Hb.out
      rw [hp] at hb
      have Hb2 := Lib.hid hb
      have hn : (Lib.byteCells L).length = 32 := by rw [Lib.byteCells_length]; exact hl32
      have Hn := Lib.hid hn
      have hm1 : w.heap.size < w2.heap.size := by have := H3.out.size; have := B1.out.lt; omega
      have b1 := (((B1.out.grown H3.out (by have := H.out.lt; simp; omega)).grown G3.out (by simp)).grown Hgr.out (by simp; omega))
      have B1' := Lib.hid b1
      clear hb hn hp hl32 b1 hm1
      go_wp2_with (first | (refine wpList_load_part rfl 26 _ rfl w2.heap.size 0 rfl (Lib.byteCells L) _ Hb2.out.row Tryz.underlying26 rfl (sizeH _ Hn.out) ?_) | (refine wpList_store_whole rfl 26 _ _ rfl w.heap.size rfl (Lib.byteCells L) ZH 26 rfl B1'.out (by rw [Hn.out]; rfl) (oneCell_bytes _) (sizeH _ Hn.out) ?_))
      intro w9 m1 m2 m3
      go_wp2
      have hlt2 := H.out.lt
      exact ⟨rfl, .agg (Lib.byteCells L).toArray, results_cell_one rfl _ _ ⟨w.heap.size, 0, none⟩ _ rfl (run_loadVar_part _ _ _ 26 _ _ m3.row Tryz.underlying26 rfl (sizeH _ Hn.out)), rfl,
        ((H2.out.grown G3.out).grownAt Hgr.out (by have := H3.out.size; have := B1.out.lt; omega)).grownAt m1 hlt2,
        grown_new (grown_new (Lib.grownBy_trans (Lib.grownBy_trans (grown_none G1.out) H3.out) (grown_none G3.out)) Hgr.out (by have := H3.out.size; have := B1.out.lt; omega)) m1 (Nat.le_refl _)⟩

theorem rdTake_hash (st : RS) : rdTake 32 st = rdHash st := by cases st <;> rfl
theorem QHash' (p : Nat) (st : RS) (w : World) (h : IsR w p st) :
    Calls Tryz.prog 116 #[.pointer (some ⟨p, 0, none⟩)] w (Reads (.agg (Lib.byteCells (rdHash st).1).toArray) (rdHash st).2 p w) := by
  have := QHash p st w h
  rwa [rdTake_hash] at this

end Go.Proofs.YtcbkehnlgpcelaaGreatDoor
