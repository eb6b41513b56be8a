/- Walks: schnorr.word, number, Key, challenge. Walks: schnorr.challenge, Key, Sign, Verify. Walks: schnorr.Sign, Verify. Walk: schnorr.Verify. -/
import Derived.Test.YtfnginmoiecgnaaDoorSch
import Derived.Test.YtfnginmoiecgnaaDoorHsh
import Derived.Test.YtfnginmoiecgnaaDoorRead
import Derived.Deep.RegionHeld3
namespace Go.Proofs.YtfnginmoiecgnaaDoor
open Go.RowKit
set_option maxRecDepth 100000

theorem be_get : ∀ (k n i : Nat) (_h : i < k), (be k n)[i]? = some (UInt8.ofNat (n / 256 ^ (k - 1 - i)))
  | 0, _, _, h => by omega
  | k + 1, n, 0, _ => by simp [be]
  | k + 1, n, i + 1, h => by
    rw [be, List.getElem?_cons_succ, be_get k n i (by omega)]
    congr 4
    omega
theorem drew_keep {w w' : World} {row : Option Nat} (h : w.grownBy w' row) : w.grownBy w'.drew row := ⟨h.os, h.tape, h.output, h.size, h.block⟩
def wordC (n k : Nat) : List UInt8 := (be 8 n).take k ++ List.replicate (8 - k) 0
theorem wordC_len (n k : Nat) (h : k ≤ 8) : (wordC n k).length = 8 := by simp [wordC, be_length]; omega
theorem wordC_set (n k : Nat) (h : k < 8) : (Lib.byteCells (wordC n k)).set k (.int .u8 ((UInt8.ofNat (n / 256 ^ (7 - k))).toNat : Int)) = Lib.byteCells (wordC n (k + 1)) := by
  refine List.ext_getElem? fun j => ?_
  have hb : (be 8 n)[k]? = some (UInt8.ofNat (n / 256 ^ (7 - k))) := by rw [be_get 8 n k h, show 8 - 1 - k = 7 - k by omega]
  have hl := be_length 8 n
  by_cases hj : j < 8
  · by_cases e : k = j
    · subst e
      rw [List.getElem?_set_self (by rw [Lib.byteCells_length, wordC_len n k (by omega)]; omega)]
      unfold Lib.byteCells wordC
      rw [List.getElem?_map, List.getElem?_append_left (by rw [List.length_take]; omega), List.getElem?_take_of_lt (by omega), hb]
      rfl
    · rw [List.getElem?_set_ne e]
      unfold Lib.byteCells wordC
      rw [List.getElem?_map, List.getElem?_map]
      by_cases h2 : j < k
      · rw [List.getElem?_append_left (by rw [List.length_take]; omega), List.getElem?_append_left (by rw [List.length_take]; omega), List.getElem?_take_of_lt h2, List.getElem?_take_of_lt (by omega)]
      · rw [List.getElem?_append_right (by rw [List.length_take]; omega), List.getElem?_append_right (by rw [List.length_take]; omega), List.getElem?_replicate, List.getElem?_replicate, List.length_take, List.length_take]
        rw [if_pos (by omega), if_pos (by omega)]
  · rw [List.getElem?_eq_none (by rw [List.length_set, Lib.byteCells_length, wordC_len n k (by omega)]; omega), List.getElem?_eq_none (by rw [Lib.byteCells_length, wordC_len n (k + 1) (by omega)]; omega)]
def Z8b : List Value := Lib.byteCells (List.replicate 8 0)
theorem Z8b_info : (Tryd.prog.info? 125).map (fun i => i.zero.map (fun v => v.cells)) = some (some Z8b.toArray) := by kernel_rfl
theorem size_u8 : (Tryd.prog.info? 5).map (·.size) = some 1 := by kernel_rfl

set_option maxHeartbeats 1000000 in
theorem word_ok (n : Nat) (w : World) (hn : n < 18446744073709551616) :
    Calls Tryd.prog 61 #[.int .u64 (n : Int)] w fun e w' => e = .returned (.slice (some ⟨w.heap.size, 0, none⟩) 8 8) ∧ RdB w' (.slice (some ⟨w.heap.size, 0, none⟩) 8 8) (be 8 n) ∧ w.grownBy w' none := by
  have Hn := Lib.hid hn
  clear hn
  go_enter Tryd.func61, Tryd.ntmps61
  go_wp2_with (refine wpList_alloc_as rfl 125 rfl Z8b Z8b_info ?_)
  intro w1 b1 g1 s1
  obtain ⟨b, hb⟩ : ∃ b, w.heap.size = b := ⟨_, rfl⟩
  rw [hb] at b1 s1 ⊢
  have B1 := Lib.hid b1; have G1 := Lib.hid g1; have S1 := Lib.hid s1; have HB := Lib.hid hb
  clear b1 g1 s1 hb
  go_wp2_with fail
  go_loopw [5] (fun i wr => ∃ k : Nat, k ≤ 8 ∧ i = .int .i64 k ∧ Blk wr b (Lib.byteCells (wordC n k)) 125 ∧ w.grownBy wr none) (fun i _ => 8 - (intOf i).toNat)
  case atStart => exact ⟨0, Nat.zero_le _, rfl, B1.out, G1.out⟩
  case round =>
    obtain ⟨k, hk, rfl, hb, hg⟩ := hrel
    have Hb := Lib.hid hb; have Hg := Lib.hid hg
    clear hb hg
    by_cases hlt : k < 8
    · have q1 : ((56 : Int) - 8 * (k : Int)) = 8 * ((7 - k : Nat) : Int) := by omega
      obtain ⟨kk, hkk⟩ : ∃ kk : Int, kk = 8 * ((7 - k : Nat) : Int) := ⟨_, rfl⟩
      rw [← hkk] at q1
      have hk0 : 0 ≤ kk := by omega
      have hk2 : kk < 64 := by omega
      have hby : IntKind.u8.wrap ((n : Int) / 2 ^ kk.toNat) = ((UInt8.ofNat (n / 256 ^ (7 - k))).toNat : Int) := by rw [hkk, ← byte_of]
      have hlen : (Lib.byteCells (wordC n k)).length = 8 := by rw [Lib.byteCells_length, wordC_len n k (by omega)]
      have Hby := Lib.hid hby; have Hset := Lib.hid (wordC_set n k hlt); have Hlen := Lib.hid hlen
      have hby2 : ((n : Int) / 2 ^ kk.toNat) % 256 = ((UInt8.ofNat (n / 256 ^ (7 - k))).toNat : Int) := by rw [← hby, IntKind.wrap_u8]
      obtain ⟨c, hc⟩ : ∃ c : UInt8, c = UInt8.ofNat (n / 256 ^ (7 - k)) := ⟨_, rfl⟩
      rw [← hc] at Hset hby2 Hby
      have Hby2 := Lib.hid hby2
      clear hby hkk hlen hc hby2
      have hl8 : k < (Lib.byteCells (wordC n k)).length := by rw [Hlen.out]; exact hlt
      go_wp2_with (refine wpList_store_cell rfl 5 _ _ rfl b k rfl (.int .u8 (c.toNat : Int)) (congrArg (Value.int .u8) Hby2.out) rfl _ _ Hb.out hl8 size_u8 ?_)
      intro w2 g2 s2 b2
      rw [Hset.out] at b2
      have B2 := Lib.hid b2; have G2 := Lib.hid (grown_new Hg.out g2 (by rw [HB.out]; exact Nat.le_refl _))
      clear b2 g2 s2
      go_wp2_with fail
      exact ⟨⟨k + 1, by omega, by go_num, B2.out, G2.out⟩, by simp [intOf]; omega⟩
    · obtain rfl : k = 8 := by omega
      go_wp2_with fail
      go_ret
      have e8 : wordC n 8 = be 8 n := by unfold wordC; rw [List.take_of_length_le (by rw [be_length]; exact Nat.le_refl _)]; simp
      have hb8 := Hb.out
      rw [e8] at hb8
      have r : RdB wr (.slice (some ⟨b, 0, none⟩) 8 8) (be 8 n) := ⟨some ⟨b, 0, none⟩, 8, by rw [be_length], by rw [be_length]; exact Nat.le_refl _, by unfold maxLen; omega, Or.inr ⟨b, 0, rfl, hb8.lt, hb8.row⟩⟩
      rw [HB.out]
      exact ⟨rfl, r, Hg.out⟩

def numL (h : List UInt8) : Nat := ofBe (h.take 8) % pQ
theorem numL_lt (h : List UInt8) : numL h < pQ := Nat.mod_lt _ (by unfold pQ; omega)
set_option maxHeartbeats 1000000 in
theorem number_ok (h : List UInt8) (w : World) (hl : h.length = 32) :
    Calls Tryd.prog 59 #[.agg (Lib.byteCells h).toArray] w fun e w' => e = .returned (.int .u64 (numL h : Int)) ∧ w.grownBy w' none := by
  have Hl := Lib.hid hl
  clear hl
  go_enter Tryd.func59, Tryd.ntmps59
  go_wp2_with (refine wpList_box_as rfl 25 _ rfl (Lib.byteCells h) rfl ?_)
  intro w1 b1 g1 s1
  have B1 := Lib.hid b1; have G1 := Lib.hid g1
  obtain ⟨b, hb⟩ : ∃ b, w.heap.size = b := ⟨_, rfl⟩
  rw [hb] at B1 ⊢
  clear b1 g1 s1 hb
  go_wp2_with fail
  go_loop [3, 8] (fun x i => ∃ k : Nat, k ≤ 8 ∧ i = .int .i64 k ∧ ∃ a : Nat, x = .int .u64 a ∧ a < 256 ^ k ∧ a = ofBe (h.take k)) (fun _ i => 8 - (intOf i).toNat)
  case atStart => exact ⟨0, Nat.zero_le _, rfl, 0, rfl, by simp, rfl⟩
  case round =>
    obtain ⟨k, hk, rfl, a, rfl, ha, hx⟩ := hrel
    have Ha := Lib.hid ha; have Hx := Lib.hid hx; clear ha hx
    by_cases hlt : k < 8
    · have hk2 : k < h.length := by rw [Hl.out]; omega
      have hcell := B1.out.row k _ (byteCells_get _ k hk2)
      rw [Nat.zero_add] at hcell
      obtain ⟨u, hu⟩ : ∃ u, u = h[k] := ⟨_, rfl⟩
      rw [← hu] at hcell
      have Hs := Lib.hid (show ofBe (h.take (k + 1)) = ofBe (h.take k) * 256 + u.toNat by rw [List.take_succ_eq_append_getElem hk2, ofBe_snoc, ← hu])
      clear hk2 hu
      go_wp2
      have h7 : a < 256 ^ 7 := Nat.lt_of_lt_of_le Ha.out (Nat.pow_le_pow_right (by decide) (by omega))
      refine ⟨⟨k + 1, by omega, by go_num, a * 256 + u.toNat, by rw [or_byte a u h7], pow_step a k u Ha.out, by rw [Hs.out, Hx.out]⟩, by simp [intOf]; omega⟩
    · obtain rfl : k = 8 := by omega
      have q1 : (a : Int) % 2305843009213693950 = ((numL h : Nat) : Int) := by
        unfold numL; rw [← Hx.out]; unfold pQ; simp
      go_wp2
      go_ret
      exact ⟨rfl, G1.out⟩

theorem join_len (_tag : UInt8) (ls : List (List UInt8)) {n : Nat} (h : ls.flatten.length = n) : ls.flatten.length = n := h
/-- three slices in a row of the call's own -/
theorem rdl_three (w : World) (u1 u2 u3 : Value) (l1 l2 l3 : List UInt8) (T : TypeId) (h1 : RdB w u1 l1) (h2 : RdB w u2 l2) (h3 : RdB w u3 l3) :
    ∃ W, w.alloc (.cells #[u1, u2, u3] T) = W ∧ RdL W (.slice (some ⟨w.heap.size, 0, none⟩) 3 3) [l1, l2, l3] ∧ w.grownBy W none := by
  have g : w.grownBy (w.alloc (.cells #[u1, u2, u3] T)) none := World.grownBy_alloc w _ none
  refine ⟨_, rfl, ⟨_, 3, [u1, u2, u3], rfl, Nat.le_refl _, by simp [maxLen], rfl, fun i l' hi => ?_, Or.inr ⟨_, 0, rfl, by simp, RowAt_box w [u1, u2, u3] T⟩⟩, g⟩
  match i, hi with
  | 0, hi => injection hi with hi; subst hi; exact ⟨_, rfl, h1.grown g⟩
  | 1, hi => injection hi with hi; subst hi; exact ⟨_, rfl, h2.grown g⟩
  | 2, hi => injection hi with hi; subst hi; exact ⟨_, rfl, h3.grown g⟩
  | i + 3, hi => simp at hi
theorem rdl_two (w : World) (u1 u2 : Value) (l1 l2 : List UInt8) (T : TypeId) (h1 : RdB w u1 l1) (h2 : RdB w u2 l2) :
    ∃ W, w.alloc (.cells #[u1, u2] T) = W ∧ RdL W (.slice (some ⟨w.heap.size, 0, none⟩) 2 2) [l1, l2] ∧ w.grownBy W none := by
  have g : w.grownBy (w.alloc (.cells #[u1, u2] T)) none := World.grownBy_alloc w _ none
  refine ⟨_, rfl, ⟨_, 2, [u1, u2], rfl, Nat.le_refl _, by simp [maxLen], rfl, fun i l' hi => ?_, Or.inr ⟨_, 0, rfl, by simp, RowAt_box w [u1, u2] T⟩⟩, g⟩
  match i, hi with
  | 0, hi => injection hi with hi; subst hi; exact ⟨_, rfl, h1.grown g⟩
  | 1, hi => injection hi with hi; subst hi; exact ⟨_, rfl, h2.grown g⟩
  | i + 2, hi => simp at hi

def chalL (r key : Nat) (m : List UInt8) : Nat := numL (blake (2 :: [be 8 r, be 8 key, m].flatten))
theorem chalL_lt (r key : Nat) (m : List UInt8) : chalL r key m < pQ := numL_lt _

set_option maxHeartbeats 1000000 in
theorem challenge_ok (r key : Nat) (m : List UInt8) (v : Value) (w : World) (hr : r < 18446744073709551616) (hk : key < 18446744073709551616) (hv : RdB w v m) (hm : m.length < 4611686018427387000)
    (hR : RowAt w 0 0 (wCells rootsL)) :
    Calls Tryd.prog 63 #[.int .u64 (r : Int), .int .u64 (key : Int), v] w fun e w' => e = .returned (.int .u64 (chalL r key m : Int)) ∧ w.grownBy w' none := by
  obtain ⟨ao, c, hv0, _⟩ := id hv
  subst hv0
  have HV := Lib.hid hv; have HR := Lib.hid hR; have Hr := Lib.hid hr; have Hk := Lib.hid hk; have Hm := Lib.hid hm
  clear hv hR hr hk hm
  go_enter Tryd.func63, Tryd.ntmps63
  go_wp2_with fail
  refine (word_ok r w Hr.out).mono ?_
  rintro e w1 ⟨rfl, r1, g1⟩
  obtain ⟨b1, hb1⟩ : ∃ b, w.heap.size = b := ⟨_, rfl⟩
  rw [hb1] at r1 ⊢
  have R1 := Lib.hid r1; have G1 := Lib.hid g1
  clear r1 g1 hb1
  go_wp2_with fail
  refine (word_ok key w1 Hk.out).mono ?_
  rintro e w2 ⟨rfl, r2, g2⟩
  obtain ⟨b2, hb2⟩ : ∃ b, w1.heap.size = b := ⟨_, rfl⟩
  rw [hb2] at r2 ⊢
  have R2 := Lib.hid r2; have R1' := Lib.hid (R1.out.grown g2); have G2 := Lib.hid (Lib.grownBy_trans G1.out g2)
  clear r2 g2 hb2 R1 G1
  go_wp2_with fail
  obtain ⟨w3, hw3, r3, g3⟩ := rdl_three w2 _ _ _ _ _ _ 66 R1'.out R2.out (HV.out.grown G2.out)
  rw [hw3]
  have C := Join_ok 2 [be 8 r, be 8 key, m] _ w3 r3 (by have := Hm.out; simp [be_length]; omega) (HR.out.grown (Lib.grownBy_trans G2.out g3) (by simp))
  have G3 := Lib.hid (Lib.grownBy_trans G2.out g3)
  clear r3 g3 hw3 R1' R2 G2
  have hbl := blake_len (2 :: [be 8 r, be 8 key, m].flatten)
  have hnl := show chalL r key m = numL (blake (2 :: [be 8 r, be 8 key, m].flatten)) from rfl
  obtain ⟨X, hX⟩ : ∃ X, blake (2 :: [be 8 r, be 8 key, m].flatten) = X := ⟨_, rfl⟩
  rw [hX] at C hbl hnl
  have HX := Lib.hid hnl; have HL := Lib.hid hbl
  clear hX hnl hbl
  refine C.mono ?_
  rintro e w4 ⟨rfl, g4⟩
  have G4 := Lib.hid (Lib.grownBy_trans G3.out g4)
  clear g4 C G3
  go_wp2_with fail
  refine (number_ok X w4 HL.out).mono ?_
  rintro e w5 ⟨rfl, g5⟩
  have G5 := Lib.hid (Lib.grownBy_trans G4.out g5)
  clear g5 G4
  go_wp2_with fail
  go_ret
  rw [HX.out]
  exact ⟨rfl, G5.out⟩

def keyOk (x : Nat) : Bool := decide (1 ≤ x) && decide (x < pQ)
set_option maxHeartbeats 1000000 in
theorem Key_yes (x : Nat) (w : World) (h : keyOk x = true) : Calls Tryd.prog 35 #[.int .u64 (x : Int)] w (Drew (.tuple #[.int .u64 ((pw 37 x : Nat) : Int), .int .i64 0]) w) := by
  have h1 : 1 ≤ x ∧ x < pQ := by simpa [keyOk] using h
  have hq : x < 2305843009213693950 := h1.2
  have g1 : ((x : Int) == 0) = false := by have := h1.1; simp; omega
  have g2 : decide ((2305843009213693950 : Int) ≤ (x : Int)) = false := by simp; omega
  have C := Lib.hid (Power_ok 37 x w (by omega) (by omega))
  obtain ⟨k, hk⟩ : ∃ k, pw 37 x = k := ⟨_, rfl⟩
  rw [hk] at C ⊢
  clear h h1 hq hk
  go_enter Tryd.func35, Tryd.ntmps35
  go_wp2_with fail
  refine C.out.mono ?_
  rintro e w' ⟨rfl, n, rfl⟩
  go_wp2_with fail
  go_ret2
  exact ⟨rfl, _, rfl⟩
set_option maxHeartbeats 1000000 in
theorem Key_no (x : Nat) (w : World) (h : keyOk x = false) : Calls Tryd.prog 35 #[.int .u64 (x : Int)] w fun e w' => e = .returned (.tuple #[.int .u64 0, .int .i64 41]) ∧ w' = w := by
  rcases Nat.eq_zero_or_pos x with rfl | h0
  · go_enter Tryd.func35, Tryd.ntmps35
    go_wp2_with fail
    go_ret2
    exact ⟨rfl, rfl⟩
  · have hq : 2305843009213693950 ≤ x := by
      have : ¬ (x < pQ) := by intro h2; have : keyOk x = true := by simp [keyOk]; exact ⟨h0, h2⟩; 
                              rw [this] at h; cases h
      unfold pQ at this; omega
    have g1 : ((x : Int) == 0) = false := by simp; omega
    have g2 : decide ((2305843009213693950 : Int) ≤ (x : Int)) = true := by simp; omega
    clear h h0 hq
    go_enter Tryd.func35, Tryd.ntmps35
    go_wp2_with fail
    go_ret2
    exact ⟨rfl, rfl⟩

def sigC (r s : Nat) : List Value := [.int .u64 (r : Int), .int .u64 (s : Int)]
theorem ZSig_info : (Tryd.prog.info? 27).map (fun i => i.zero.map (fun v => v.cells)) = some (some (sigC 0 0).toArray) := by kernel_rfl
theorem bSigN : Tryd.prog.built 27 [] = some (sigC 0 0).toArray := by kernel_rfl
theorem sizeSigN (r s : Nat) : (Tryd.prog.info? 27).map (·.size) = some (sigC r s).length := by rw [show (sigC r s).length = (sigC 0 0).length from rfl]; kernel_rfl
theorem bSig2 (r s : Nat) : Tryd.prog.built 27 [(0, .int .u64 (r : Int)), (1, .int .u64 (s : Int))] = some (sigC r s).toArray := by kernel_rfl
theorem sigC_one (r s : Nat) : ∀ v ∈ sigC r s, v.oneCell' = true := by
  intro v hv; simp only [sigC, List.mem_cons, List.not_mem_nil, or_false] at hv; rcases hv with rfl | rfl <;> rfl
def kNL (x : Nat) (m : List UInt8) : Nat := max (numL (blake (1 :: [be 8 x, m].flatten))) 1
def sgR (x : Nat) (m : List UInt8) : Nat := pw 37 (kNL x m)
def sgS (x : Nat) (m : List UInt8) : Nat := (kNL x m + chalL (sgR x m) (pw 37 x) m * x % pQ) % pQ
theorem kNL_lt (x : Nat) (m : List UInt8) : kNL x m < pQ := by
  have := numL_lt (blake (1 :: [be 8 x, m].flatten))
  unfold kNL; unfold pQ at *; omega
theorem pw_u64 (b e : Nat) : pw b e < 18446744073709551616 := by have := pw_lt b e; unfold pP at this; omega

set_option maxHeartbeats 1000000 in
theorem Sign_no (x : Nat) (v : Value) (w : World) (h : keyOk x = false) :
    Calls Tryd.prog 36 #[.int .u64 (x : Int), v] w fun e w' => e = .returned (.tuple #[.agg (sigC 0 0).toArray, .int .i64 41]) ∧ w.grownBy w' none := by
  have H := Lib.hid h
  clear h
  go_enter Tryd.func36, Tryd.ntmps36
  go_wp2_with (refine wpList_alloc_as rfl 27 rfl (sigC 0 0) ZSig_info ?_)
  intro w1 b1 g1 s1
  have B1 := Lib.hid b1; have G1 := Lib.hid g1
  obtain ⟨b, hb⟩ : ∃ b, w.heap.size = b := ⟨_, rfl⟩
  rw [hb] at B1 ⊢
  have HB := Lib.hid hb
  clear b1 g1 s1 hb
  go_wp2_with fail
  refine (Key_no x w1 H.out).mono ?_
  rintro e w' ⟨rfl, rfl⟩
  go_wp2_with (first | (refine wpList_build_eq rfl 27 _ rfl [] (by kernel_rfl) (sigC 0 0) bSigN ?_) | (refine wpList_store_whole rfl 27 _ _ rfl b rfl (sigC 0 0) (sigC 0 0) 27 rfl B1.out rfl (sigC_one 0 0) (sizeSigN 0 0) ?_))
  intro w2 g2 s2 b2
  have B2 := Lib.hid b2; have G2 := Lib.hid (grown_new G1.out g2 (by rw [HB.out]; exact Nat.le_refl _))
  clear b2 g2 s2
  go_wp2_with fail
  refine bodyPost_ret (results_cell_tmp rfl _ _ ⟨b, 0, none⟩ _ _ rfl rfl (run_loadVar_part _ _ _ 27 (sigC 0 0) _ B2.out.row Tryd.underlying27 rfl (sizeSigN 0 0))) rfl ?_
  exact ⟨rfl, G2.out⟩

set_option maxHeartbeats 2000000 in
theorem Sign_yes (x : Nat) (m : List UInt8) (v : Value) (w : World) (h : keyOk x = true) (hv : RdB w v m) (hm : m.length < 4611686018427387000) (hR : RowAt w 0 0 (wCells rootsL)) :
    Calls Tryd.prog 36 #[.int .u64 (x : Int), v] w fun e w' => e = .returned (.tuple #[.agg (sigC (sgR x m) (sgS x m)).toArray, .int .i64 0]) ∧ w.grownBy w' none := by
  obtain ⟨ao, c, hv0, _⟩ := id hv
  subst hv0
  have hx : x < 2305843009213693950 := by have : 1 ≤ x ∧ x < pQ := by simpa [keyOk] using h
                                          exact this.2
  have HV := Lib.hid hv; have HR := Lib.hid hR; have Hm := Lib.hid hm; have H := Lib.hid h; have Hx := Lib.hid hx
  obtain ⟨key, hkey⟩ : ∃ k, pw 37 x = k := ⟨_, rfl⟩
  obtain ⟨k, hk⟩ : ∃ k, kNL x m = k := ⟨_, rfl⟩
  obtain ⟨r, hr⟩ : ∃ k, sgR x m = k := ⟨_, rfl⟩
  have Hkey := Lib.hid hkey; have Hk := Lib.hid hk; have Hr := Lib.hid hr
  have Kl := Lib.hid (show k < 2305843009213693950 by rw [← hk]; exact kNL_lt x m)
  clear hv hR hm h hx hkey hk hr
  go_enter Tryd.func36, Tryd.ntmps36
  go_wp2_with (refine wpList_alloc_as rfl 27 rfl (sigC 0 0) ZSig_info ?_)
  intro w1 b1 g1 s1
  have B1 := Lib.hid b1; have G1 := Lib.hid g1
  obtain ⟨b, hb⟩ : ∃ b, w.heap.size = b := ⟨_, rfl⟩
  rw [hb] at B1 ⊢
  have HB := Lib.hid hb
  clear b1 g1 s1 hb
  go_wp2_with fail
  refine (Key_yes x w1 H.out).mono ?_
  rw [Hkey.out]
  rintro e w' ⟨rfl, n, hw⟩
  have g2 : w1.grownBy w' none := hw ▸ drew_grown w1 n
  have B2 := Lib.hid (B1.out.grown g2 (by simp)); have G2 := Lib.hid (Lib.grownBy_trans G1.out g2)
  clear hw g2 B1 G1
  go_wp2_with fail
  refine (word_ok x w' (by have := Hx.out; omega)).mono ?_
  rintro e w3 ⟨rfl, r3, g3⟩
  obtain ⟨b3, hb3⟩ : ∃ b, w'.heap.size = b := ⟨_, rfl⟩
  rw [hb3] at r3 ⊢
  have B3 := Lib.hid (B2.out.grown g3 (by simp)); have G3 := Lib.hid (Lib.grownBy_trans G2.out g3); have R3 := Lib.hid r3
  clear r3 g3 hb3 B2 G2
  go_wp2_with fail
  obtain ⟨w4, hw4, r4, g4⟩ := rdl_two w3 _ _ _ _ 66 R3.out (HV.out.grown G3.out)
  rw [hw4]
  have C := Join_ok 1 [be 8 x, m] _ w4 r4 (by have := Hm.out; simp [be_length]; omega) (HR.out.grown (Lib.grownBy_trans G3.out g4) (by simp))
  have B4 := Lib.hid (B3.out.grown g4 (by simp)); have G4 := Lib.hid (Lib.grownBy_trans G3.out g4)
  clear r4 g4 hw4 R3 B3 G3
  have hbl := blake_len (1 :: [be 8 x, m].flatten)
  have hnl := show kNL x m = max (numL (blake (1 :: [be 8 x, m].flatten))) 1 from rfl
  obtain ⟨X, hX⟩ : ∃ X, blake (1 :: [be 8 x, m].flatten) = X := ⟨_, rfl⟩
  rw [hX] at C hbl hnl
  rw [Hk.out] at hnl
  have HX := Lib.hid hnl; have HL := Lib.hid hbl
  clear hX hnl hbl
  refine C.mono ?_
  rintro e w5 ⟨rfl, g5⟩
  have B5 := Lib.hid (B4.out.grown g5 (by simp)); have G5 := Lib.hid (Lib.grownBy_trans G4.out g5)
  clear g5 C B4 G4
  go_wp2_with fail
  refine (number_ok X w5 HL.out).mono ?_
  rintro e w6 ⟨rfl, g6⟩
  have B6 := Lib.hid (B5.out.grown g6 (by simp)); have G6 := Lib.hid (Lib.grownBy_trans G5.out g6)
  clear g6 B5 G5
  go_wp2_with fail
  have e1 : max ((numL X : Nat) : Int) 1 = (k : Int) := by have := HX.out; omega
  have er : pw 37 k = r := by rw [← Hr.out, ← Hk.out]; rfl
  rw [e1]
  have P := Power_ok 37 k w6 (by omega) (by have := Kl.out; omega)
  rw [er] at P
  refine P.mono ?_
  rintro e w7 ⟨rfl, n7, hw7⟩
  have g7 : w6.grownBy w7 none := hw7 ▸ drew_grown w6 n7
  have B7 := Lib.hid (B6.out.grown g7 (by simp)); have G7 := Lib.hid (Lib.grownBy_trans G6.out g7)
  clear hw7 g7 B6 G6 e1 er P
  go_wp2_with fail
  have CC := challenge_ok r key m _ w7 (by rw [← Hr.out]; exact pw_u64 _ _) (by rw [← Hkey.out]; exact pw_u64 _ _) (HV.out.grown G7.out) Hm.out (HR.out.grown G7.out (by simp))
  obtain ⟨ch, hch⟩ : ∃ n, chalL r key m = n := ⟨_, rfl⟩
  have Chl := Lib.hid (show ch < 2305843009213693950 by rw [← hch]; exact chalL_lt _ _ _)
  rw [hch] at CC
  have Hch := Lib.hid hch
  clear hch
  refine CC.mono ?_
  rintro e w8 ⟨rfl, g8⟩
  have B8 := Lib.hid (B7.out.grown g8 (by simp)); have G8 := Lib.hid (Lib.grownBy_trans G7.out g8)
  clear g8 CC B7 G7
  go_wp2_with fail
  have TQ := times_q ch x w8 (by have := Chl.out; omega) (by have := Hx.out; omega)
  obtain ⟨t, ht⟩ : ∃ n, ch * x % 2305843009213693950 = n := ⟨_, rfl⟩
  have Tl := Lib.hid (show t < 2305843009213693950 by rw [← ht]; exact Nat.mod_lt _ (by omega))
  rw [ht] at TQ
  have Ht := Lib.hid ht
  clear ht
  refine TQ.mono ?_
  rintro e w9 ⟨rfl, n9, hw9⟩
  have g9 : w8.grownBy w9 none := hw9 ▸ drew_grown w8 n9
  have B9 := Lib.hid (B8.out.grown g9 (by simp)); have G9 := Lib.hid (Lib.grownBy_trans G8.out g9)
  obtain ⟨z, hz⟩ : ∃ n, k + t = n := ⟨_, rfl⟩
  obtain ⟨s, hs⟩ : ∃ n, z % 2305843009213693950 = n := ⟨_, rfl⟩
  have f1 : IntKind.u64.wrap ((k : Int) + (t : Int)) = (z : Int) := by
    rw [← Int.natCast_add, hz]; exact u64_in _ (Int.natCast_nonneg _) (by have := Kl.out; have := Tl.out; omega)
  have f2 : (z : Int) % 2305843009213693950 = (s : Int) := by omega
  have Hs := Lib.hid (show sgS x m = s by
    unfold sgS; rw [Hk.out, Hr.out, Hkey.out, Hch.out, show pQ = 2305843009213693950 from rfl, Ht.out, hz, hs])
  clear hz hs hw9 g9 TQ B8 G8
  go_wp2_with (first | (refine wpList_build_eq rfl 27 _ rfl [(0, .int .u64 (r : Int)), (1, .int .u64 (s : Int))] rfl (sigC r s) (bSig2 r s) ?_) | (refine wpList_store_whole rfl 27 _ _ rfl b rfl (sigC r s) (sigC 0 0) 27 rfl B9.out rfl (sigC_one r s) (sizeSigN r s) ?_))
  intro w10 g10 s10 b10
  have B10 := Lib.hid b10; have G10 := Lib.hid (grown_new G9.out g10 (by rw [HB.out]; exact Nat.le_refl _))
  clear b10 g10 s10
  go_wp2_with fail
  refine bodyPost_ret (results_cell_tmp rfl _ _ ⟨b, 0, none⟩ _ _ rfl rfl (run_loadVar_part _ _ _ 27 (sigC r s) _ B10.out.row Tryd.underlying27 rfl (sizeSigN r s))) rfl ?_
  rw [Hr.out, Hs.out]
  exact ⟨rfl, G10.out⟩

def vfyL (key : Nat) (m : List UInt8) (r s : Nat) : Bool := (decide (1 ≤ key) && decide (key < pP)) && ((decide (1 ≤ r) && decide (r < pP)) && (decide (s < pQ) && decide (pw 37 s = r * pw key (chalL r key m) % pP)))
theorem in_ok (n : Nat) (w : World) : Calls Tryd.prog 72 #[.int .u64 (n : Int)] w fun e w' => e = .returned (.bool (decide (1 ≤ n) && decide (n < pP))) ∧ w = w' := by
  cases q1 : decide ((1 : Int) ≤ (n : Int)) with
  | true =>
    have h1 : decide (1 ≤ n) = true := by simp at q1 ⊢; omega
    rw [h1, Bool.true_and]
    cases q2 : decide ((n : Int) < 2305843009213693951) with
    | true =>
      have h2 : decide (n < pP) = true := by unfold pP; simp at q2 ⊢; omega
      rw [h2]
      have q3 : decide (1 ≤ n) = true := h1
      clear h2
      go_enter Tryd.func72, Tryd.ntmps72
      go_wp2
      go_ret
      exact ⟨rfl, rfl⟩
    | false =>
      have h2 : decide (n < pP) = false := by unfold pP; simp at q2 ⊢; omega
      rw [h2]
      have q3 : decide (1 ≤ n) = true := h1
      clear h2
      go_enter Tryd.func72, Tryd.ntmps72
      go_wp2
      go_ret
      exact ⟨rfl, rfl⟩
  | false =>
    have h1 : decide (1 ≤ n) = false := by simp at q1 ⊢; omega
    rw [h1, Bool.false_and]
    obtain rfl : n = 0 := by simp at q1; omega
    clear q1 h1
    go_enter Tryd.func72, Tryd.ntmps72
    go_wp2
    go_ret
    exact ⟨rfl, rfl⟩

theorem beq_cast (a b : Nat) : ((a : Int) == (b : Int)) = decide (a = b) := by
  rw [Bool.eq_iff_iff]; simp only [beq_iff_eq, decide_eq_true_eq]; omega
set_option maxHeartbeats 2000000 in
theorem Verify_ok (key r s : Nat) (m : List UInt8) (v : Value) (w : World) (hk : key < 18446744073709551616) (hr : r < 18446744073709551616) (hs : s < 18446744073709551616) (hv : RdB w v m) (hm : m.length < 4611686018427387000)
    (hR : RowAt w 0 0 (wCells rootsL)) :
    Calls Tryd.prog 40 #[.int .u64 (key : Int), v, .agg (sigC r s).toArray] w fun e w' => e = .returned (.bool (vfyL key m r s)) ∧ w.grownBy w' none := by
  obtain ⟨ao, c, hv0, _⟩ := id hv
  subst hv0
  have HV := Lib.hid hv; have HR := Lib.hid hR; have Hm := Lib.hid hm; have Hk := Lib.hid hk; have Hr := Lib.hid hr; have Hs := Lib.hid hs
  clear hv hR hm hk hr hs
  go_enter Tryd.func40, Tryd.ntmps40
  go_wp2_with (refine wpList_box_as rfl 27 _ rfl (sigC r s) rfl ?_)
  intro w1 b1 g1 s1
  obtain ⟨b, hb⟩ : ∃ b, w.heap.size = b := ⟨_, rfl⟩
  rw [hb] at b1 ⊢
  have B1 := Lib.hid b1; have G1 := Lib.hid g1
  have c0 := b1.row 0 _ rfl; have c1 := b1.row 1 _ rfl
  rw [Nat.zero_add] at c0 c1
  clear b1 g1 s1 hb
  cases h1 : (decide (1 ≤ key) && decide (key < pP)) with
  | false =>
    have C := in_ok key w1
    rw [h1] at C
    have E := Lib.hid (show vfyL key m r s = false by unfold vfyL; rw [h1]; rfl)
    have HC := Lib.hid C
    clear C h1
    go_wp2_with (go_at_call 72; refine HC.out.mono ?_; rintro e w' ⟨rfl, rfl⟩)
    go_ret
    rw [E.out]
    exact ⟨rfl, G1.out⟩
  | true =>
    have C := in_ok key w1
    rw [h1] at C
    have HC := Lib.hid C; have H1 := Lib.hid h1
    clear C h1
    cases h2 : (decide (1 ≤ r) && decide (r < pP)) with
    | false =>
      have D := in_ok r w1
      rw [h2] at D
      have E := Lib.hid (show vfyL key m r s = false by unfold vfyL; rw [H1.out, h2]; rfl)
      have HD := Lib.hid D
      clear D h2
      go_wp2_with (go_at_call 72; first | ((with_reducible refine HC.out.mono ?_); rintro e w' ⟨rfl, rfl⟩) | ((with_reducible refine HD.out.mono ?_); rintro e w' ⟨rfl, rfl⟩))
      go_ret
      rw [E.out]
      exact ⟨rfl, G1.out⟩
    | true =>
      have D := in_ok r w1
      rw [h2] at D
      have HD := Lib.hid D; have H2 := Lib.hid h2
      clear D h2
      cases h3 : decide ((2305843009213693950 : Int) ≤ (s : Int)) with
      | true =>
        have h4 : decide (s < pQ) = false := by unfold pQ; simp at h3 ⊢; omega
        have E := Lib.hid (show vfyL key m r s = false by unfold vfyL; rw [H1.out, H2.out, h4]; rfl)
        clear h4
        go_wp2_with (go_at_call 72; first | ((with_reducible refine HC.out.mono ?_); rintro e w' ⟨rfl, rfl⟩) | ((with_reducible refine HD.out.mono ?_); rintro e w' ⟨rfl, rfl⟩))
        go_ret
        rw [E.out]
        exact ⟨rfl, G1.out⟩
      | false =>
        have h4 : decide (s < pQ) = true := by unfold pQ; simp at h3 ⊢; omega
        have E := Lib.hid (show vfyL key m r s = decide (pw 37 s = r * pw key (chalL r key m) % pP) by unfold vfyL; rw [H1.out, H2.out, h4]; rfl)
        clear h4
        go_wp2_with (go_at_call 72; first | ((with_reducible refine HC.out.mono ?_); rintro e w' ⟨rfl, rfl⟩) | ((with_reducible refine HD.out.mono ?_); rintro e w' ⟨rfl, rfl⟩))
        obtain ⟨ch, hch⟩ : ∃ n, chalL r key m = n := ⟨_, rfl⟩
        have Chl := Lib.hid (show ch < 2305843009213693950 by rw [← hch]; exact chalL_lt _ _ _)
        obtain ⟨p1, hp1⟩ : ∃ n, pw 37 s = n := ⟨_, rfl⟩
        obtain ⟨p2, hp2⟩ : ∃ n, pw key ch = n := ⟨_, rfl⟩
        obtain ⟨p3, hp3⟩ : ∃ n, r * p2 % 2305843009213693951 = n := ⟨_, rfl⟩
        have P2 := Lib.hid (show p2 < 18446744073709551616 by rw [← hp2]; exact pw_u64 _ _)
        rw [hch, hp1, hp2, show pP = 2305843009213693951 from rfl, hp3] at E
        have K1 := Lib.hid (show ∀ w, Calls Tryd.prog 58 #[.int .u64 37, .int .u64 (s : Int)] w (Drew (.int .u64 ((pw 37 s : Nat) : Int)) w) from fun w => Power_ok 37 s w (by omega) Hs.out)
        have K2 := Lib.hid (fun w (g : w1.grownBy w none) => challenge_ok r key m _ w Hr.out Hk.out (HV.out.grown (Lib.grownBy_trans G1.out g)) Hm.out (HR.out.grown (Lib.grownBy_trans G1.out g) (by simp)))
        have K3 := Lib.hid (fun w => Power_ok key ch w Hk.out (by have := Chl.out; omega))
        have K4 := Lib.hid (fun w => times_p r p2 w Hr.out P2.out)
        rw [hch] at K2
        rw [hp1] at K1
        rw [hp2] at K3
        rw [hp3] at K4
        clear hch hp1 hp2 hp3
        have d0 : w1.drew.cell? ⟨b, 0, none⟩ = some (.int .u64 (r : Int)) := c0
        have d1 : w1.drew.cell? ⟨b, 1, none⟩ = some (.int .u64 (s : Int)) := c1
        clear HC HD H1 H2 h3
        have hg0 := drew_keep (World.grownBy.refl w1 none)
        go_region_held3 (fun w' => w'.cell? ⟨b, 0, none⟩ = some (.int .u64 (r : Int)) ∧ w'.cell? ⟨b, 1, none⟩ = some (.int .u64 (s : Int))) (first | exact ⟨by with_reducible assumption, by with_reducible assumption⟩) (first | (go_at_call 58; (with_reducible refine (K1.out w1.drew).mono ?_); rintro e w2 ⟨rfl, n2, hw2⟩; have k2 := Lib.grownBy_trans hg0 (hw2 ▸ drew_grown w1.drew n2); clear hw2; have c2 := k2.cell (a := ⟨b, 0, none⟩) c0 (by simp); have c3 := k2.cell (a := ⟨b, 1, none⟩) c1 (by simp)) | (go_at_call 63; (with_reducible refine (K2.out w2 k2).mono ?_); rintro e w3 ⟨rfl, g3⟩; have k3 := Lib.grownBy_trans k2 g3; have c4 := k3.cell (a := ⟨b, 0, none⟩) c0 (by simp); have c5 := k3.cell (a := ⟨b, 1, none⟩) c1 (by simp)) | (go_at_call 58; (with_reducible refine (K3.out w3).mono ?_); rintro e w4 ⟨rfl, n4, hw4⟩; have k4 := Lib.grownBy_trans k3 (hw4 ▸ drew_grown w3 n4); clear hw4; have c6 := k4.cell (a := ⟨b, 0, none⟩) c0 (by simp); have c7 := k4.cell (a := ⟨b, 1, none⟩) c1 (by simp)) | (go_at_call 62; (with_reducible refine (K4.out w4).mono ?_); rintro e w5 ⟨rfl, n5, hw5⟩; have k5 := Lib.grownBy_trans k4 (hw5 ▸ drew_grown w4 n5); clear hw5; have c8 := k5.cell (a := ⟨b, 0, none⟩) c0 (by simp); have c9 := k5.cell (a := ⟨b, 1, none⟩) c1 (by simp)))
        all_goals
          go_wp2
          go_ret
          rw [E.out, ← beq_cast]
          exact ⟨rfl, Lib.grownBy_trans G1.out k5⟩

end Go.Proofs.YtfnginmoiecgnaaDoor
