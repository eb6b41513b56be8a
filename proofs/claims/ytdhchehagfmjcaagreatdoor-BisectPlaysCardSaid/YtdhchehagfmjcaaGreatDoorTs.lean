import Derived.Test.YtdhchehagfmjcaaGreatDoorEncode
import Derived.Test.YtdhchehagfmjcaaGreatDoorRefB
import Derived.Shelf.SlicesE.Clone
namespace Go.Proofs.YtdhchehagfmjcaaGreatDoor
open Go.RowKit
set_option maxRecDepth 100000
def sumGo : Int → List ValD → Option Int
 | n, [] => some n
 | n, v :: l => if v.power < 1 then none else if 1125899906842624 - n < v.power then none else sumGo (n + v.power) l
def sumL (ds : List ValD) : Option Int := sumGo 0 ds
theorem sumGo_drop {ds : List ValD} {k : Nat} (h : k < ds.length) (n : Int) : sumGo n (ds.drop k) = if ds[k].power < 1 then none else if 1125899906842624 - n < ds[k].power then none else sumGo (n + ds[k].power) (ds.drop (k + 1)) := by
 rw [List.drop_eq_getElem_cons h]; rfl
theorem sumGo_range : ∀ (ds : List ValD) (n m : Int), 0 ≤ n → n ≤ 1125899906842624 → sumGo n ds = some m → 0 ≤ m ∧ m ≤ 1125899906842624
 | [], n, m, h0, h1, h => by simp only [sumGo, Option.some.injEq] at h; omega
 | v :: l, n, m, h0, h1, h => by
  unfold sumGo at h
  split at h
  ·cases h
  ·split at h
   ·cases h
   ·exact sumGo_range l _ m (by omega) (by omega) h
def powL (key : Int) : List ValD → Int
 | [] => 0
 | v :: l => if v.key = key then v.power else powL key l
theorem powL_drop {ds : List ValD} {k : Nat} (h : k < ds.length) (key : Int) : powL key (ds.drop k) = if ds[k].key = key then ds[k].power else powL key (ds.drop (k + 1)) := by
 rw [List.drop_eq_getElem_cons h]; rfl
theorem dr_grown (w : World) (n : Nat) : w.grownBy (w.drewN n) none := ⟨rfl, rfl, rfl, Nat.le_refl _, fun _ _ _ => rfl⟩
theorem gb_refl {row : Option Nat} (w : World) : w.grownBy w row := ⟨rfl, rfl, rfl, Nat.le_refl _, fun _ _ _ => rfl⟩
set_option maxHeartbeats 1000000 in
theorem vsum_ok {B : Nat} (v : Value) (ds : List ValD) (w : World) (hr : RdS B w v ds.length 2 (setCells ds)) :
  Calls Tryz.prog 120 #[v] w fun e w' => e = .returned (.tuple #[.int .i64 ((sumL ds).getD 0), .bool (sumL ds).isSome]) ∧ w.grownBy w' none := by
 obtain ⟨ao, c, rfl, hle, hcm, _, hrow⟩ := hr
 have Hrow := Lib.hid hrow
 unfold maxLen at hcm
 clear hrow
 go_enter Tryz.func120, Tryz.ntmps120
 go_wp2_with fail
 go_loopw [4, 9] (fun x i wr => ∃ k : Nat, ∃ n : Int, k ≤ ds.length ∧ i = .int .i64 k ∧ x = .int .i64 n ∧ 0 ≤ n ∧ n ≤ 1125899906842624 ∧ sumL ds = sumGo n (ds.drop k) ∧ w.grownBy wr none) (fun _ i _ => ds.length - (intOf i).toNat)
 case atStart => exact ⟨0, 0, Nat.zero_le _, rfl, rfl, by omega, by omega, rfl, gb_refl _⟩
 case round =>
  obtain ⟨k, n, hk, rfl, rfl, hn0, hn1, hs, hg⟩ := hrel
  have Hs := Lib.hid hs; have Hg := Lib.hid hg; clear hs hg
  by_cases hlt : k < ds.length
  ·rcases Hrow.out with h0 | ⟨g, o, rfl, hg, hrow⟩
   ·omega
   have R := Lib.hid (RowAt.elem (hrow.grown Hg.out (by simp)) (fun d _ => d.cells_length) k hlt)
   obtain ⟨d, hd⟩ : ∃ d, d = ds[k] := ⟨_, rfl⟩
   have Hd := Lib.hid (sumGo_drop hlt n)
   rw [← hd] at R Hd
   clear hd hrow hg
   go_wp2_with (first | (refine wpList_load_part rfl 115 _ rfl g (o + k * 2) rfl d.cells _ R.out Tryz.underlying115 rfl sizeVal ?_) | (refine wpList_alloc_as rfl 115 rfl ZVal ZVal_info ?_))
   intro w4 b4 g4 s4
   have B4 := Lib.hid b4; have G4 := Lib.hid g4; clear b4 g4 s4
   go_wp2_with (refine wpList_store_whole rfl 115 _ _ rfl wr.heap.size rfl d.cells ZVal 115 rfl B4.out rfl (ValD_one d) sizeVal ?_)
   intro w5 g5 s5 b5
   have Gn := Lib.hid (Lib.grownBy_trans Hg.out (grown_new G4.out g5 (Nat.le_refl _)))
   have c := b5.row 1 _ rfl; rw [Nat.zero_add] at c
   clear b5 g5 s5 B4 G4
   obtain ⟨p, hp⟩ : ∃ p, d.power = p := ⟨_, rfl⟩
   rw [hp] at c Hd
   clear hp
   cases h1 : decide (p < 1) with
   | true =>
    have E := Lib.hid (show sumL ds = none by rw [Hs.out, Hd.out, if_pos (by simpa using h1)])
    go_wp2_with fail
    go_ret2
    rw [E.out]
    exact ⟨rfl, Gn.out⟩
   | false =>
    cases h2 : decide (1125899906842624 - n < p) with
    | true =>
     have E := Lib.hid (show sumL ds = none by rw [Hs.out, Hd.out, if_neg (by simpa using h1), if_pos (by simpa using h2)])
     go_wp2_with fail
     go_ret2
     rw [E.out]
     exact ⟨rfl, Gn.out⟩
    | false =>
     have E := Lib.hid (show sumL ds = sumGo (n + p) (ds.drop (k + 1)) by rw [Hs.out, Hd.out, if_neg (by simpa using h1), if_neg (by simpa using h2)])
     have p1 : 1 ≤ p := by simpa using h1
     have p2 : p ≤ 1125899906842624 - n := by simpa using h2
     go_wp2_with fail
     exact ⟨⟨k + 1, n + p, by omega, by go_num, rfl, by omega, by omega, E.out, Gn.out⟩, by simp [intOf]; omega⟩
  ·obtain rfl : k = ds.length := by omega
   have E := Lib.hid (show sumL ds = some n by rw [Hs.out, List.drop_of_length_le (Nat.le_refl _)]; rfl)
   go_wp2_with fail
   go_ret2
   rw [E.out]
   exact ⟨rfl, Hg.out⟩
set_option maxHeartbeats 1000000 in
theorem RSumV_ok {B : Nat} (v : Value) (ds : List ValD) (w : World) (hr : RdS B w v ds.length 2 (setCells ds)) :
  Calls Tryz.prog 30 #[v] w fun e w' => e = .returned (.int .i64 ((sumL ds).getD (-1))) ∧ w = w' := by
 obtain ⟨ao, c, rfl, hle, hcm, _, hrow⟩ := hr
 have Hrow := Lib.hid hrow
 unfold maxLen at hcm
 clear hrow
 go_enter Tryz.func30, Tryz.ntmps30
 go_wp2_with fail
 go_loopw [3, 4] (fun x i wr => ∃ k : Nat, ∃ n : Int, k ≤ ds.length ∧ i = .int .i64 k ∧ x = .int .i64 n ∧ 0 ≤ n ∧ n ≤ 1125899906842624 ∧ sumL ds = sumGo n (ds.drop k) ∧ w = wr) (fun _ i _ => ds.length - (intOf i).toNat)
 case atStart => exact ⟨0, 0, Nat.zero_le _, rfl, rfl, by omega, by omega, rfl, rfl⟩
 case round =>
  obtain ⟨k, n, hk, rfl, rfl, hn0, hn1, hs, rfl⟩ := hrel
  have Hs := Lib.hid hs; clear hs
  by_cases hlt : k < ds.length
  ·rcases Hrow.out with h0 | ⟨g, o, rfl, hg, hrow⟩
   ·omega
   have R := Lib.hid (RowAt.elem hrow (fun d _ => d.cells_length) k hlt)
   obtain ⟨d, hd⟩ : ∃ d, d = ds[k] := ⟨_, rfl⟩
   have Hd := Lib.hid (sumGo_drop hlt n)
   rw [← hd] at R Hd
   clear hd hrow hg
   have c := R.out 1 _ rfl
   obtain ⟨p, hp⟩ : ∃ p, d.power = p := ⟨_, rfl⟩
   rw [hp] at c Hd
   clear hp
   cases h1 : decide (p < 1) with
   | true =>
    have E := Lib.hid (show sumL ds = none by rw [Hs.out, Hd.out, if_pos (by simpa using h1)])
    go_wp2_with fail
    go_ret
    rw [E.out]
    exact ⟨rfl, rfl⟩
   | false =>
    cases h2 : decide (1125899906842624 - n < p) with
    | true =>
     have E := Lib.hid (show sumL ds = none by rw [Hs.out, Hd.out, if_neg (by simpa using h1), if_pos (by simpa using h2)])
     go_wp2_with fail
     go_ret
     rw [E.out]
     exact ⟨rfl, rfl⟩
    | false =>
     have E := Lib.hid (show sumL ds = sumGo (n + p) (ds.drop (k + 1)) by rw [Hs.out, Hd.out, if_neg (by simpa using h1), if_neg (by simpa using h2)])
     have p1 : 1 ≤ p := by simpa using h1
     have p2 : p ≤ 1125899906842624 - n := by simpa using h2
     go_wp2_with fail
     exact ⟨⟨k + 1, n + p, by omega, by go_num, rfl, by omega, by omega, E.out, trivial⟩, by simp [intOf]; omega⟩
  ·obtain rfl : k = ds.length := by omega
   have E := Lib.hid (show sumL ds = some n by rw [Hs.out, List.drop_of_length_le (Nat.le_refl _)]; rfl)
   go_wp2_with fail
   go_ret
   rw [E.out]
   exact ⟨rfl, rfl⟩
set_option maxHeartbeats 1000000 in
theorem vPower_ok {B : Nat} (v : Value) (ds : List ValD) (key : Int) (w : World) (hr : RdS B w v ds.length 2 (setCells ds)) :
  Calls Tryz.prog 139 #[v, .int .u64 key] w fun e w' => e = .returned (.int .i64 (powL key ds)) ∧ w.grownBy w' none := by
 obtain ⟨ao, c, rfl, hle, hcm, _, hrow⟩ := hr
 have Hrow := Lib.hid hrow
 unfold maxLen at hcm
 clear hrow
 go_enter Tryz.func139, Tryz.ntmps139
 go_wp2_with fail
 go_loopw [9] (fun i wr => ∃ k : Nat, k ≤ ds.length ∧ i = .int .i64 k ∧ powL key ds = powL key (ds.drop k) ∧ w.grownBy wr none) (fun i _ => ds.length - (intOf i).toNat)
 case atStart => exact ⟨0, Nat.zero_le _, rfl, rfl, gb_refl _⟩
 case round =>
  obtain ⟨k, hk, rfl, hs, hg⟩ := hrel
  have Hs := Lib.hid hs; have Hg := Lib.hid hg; clear hs hg
  by_cases hlt : k < ds.length
  ·rcases Hrow.out with h0 | ⟨g, o, rfl, hg, hrow⟩
   ·omega
   have R := Lib.hid (RowAt.elem (hrow.grown Hg.out (by simp)) (fun d _ => d.cells_length) k hlt)
   obtain ⟨d, hd⟩ : ∃ d, d = ds[k] := ⟨_, rfl⟩
   have Hd := Lib.hid (powL_drop hlt key)
   rw [← hd] at R Hd
   clear hd hrow hg
   go_wp2_with (first | (refine wpList_load_part rfl 115 _ rfl g (o + k * 2) rfl d.cells _ R.out Tryz.underlying115 rfl sizeVal ?_) | (refine wpList_alloc_as rfl 115 rfl ZVal ZVal_info ?_))
   intro w4 b4 g4 s4
   have B4 := Lib.hid b4; have G4 := Lib.hid g4; clear b4 g4 s4
   go_wp2_with (refine wpList_store_whole rfl 115 _ _ rfl wr.heap.size rfl d.cells ZVal 115 rfl B4.out rfl (ValD_one d) sizeVal ?_)
   intro w5 g5 s5 b5
   have Gn := Lib.hid (Lib.grownBy_trans Hg.out (grown_new G4.out g5 (Nat.le_refl _)))
   have c0 := b5.row 0 _ rfl; have c1 := b5.row 1 _ rfl; rw [Nat.zero_add] at c0 c1
   clear b5 g5 s5 B4 G4
   obtain ⟨p, hp⟩ : ∃ p, d.power = p := ⟨_, rfl⟩
   obtain ⟨q, hq⟩ : ∃ q, d.key = q := ⟨_, rfl⟩
   rw [hp] at c1; rw [hq] at c0; rw [hp, hq] at Hd
   clear hp hq
   cases h1 : (q == key) with
   | true =>
    have E := Lib.hid (show powL key ds = p by rw [Hs.out, Hd.out, if_pos (by simpa using h1)])
    go_wp2_with fail
    go_ret
    rw [E.out]
    exact ⟨rfl, Gn.out⟩
   | false =>
    have E := Lib.hid (show powL key ds = powL key (ds.drop (k + 1)) by rw [Hs.out, Hd.out, if_neg (by simpa using h1)])
    go_wp2_with fail
    exact ⟨⟨k + 1, by omega, by go_num, E.out, Gn.out⟩, by simp [intOf]; omega⟩
  ·obtain rfl : k = ds.length := by omega
   have E := Lib.hid (show powL key ds = 0 by rw [Hs.out, List.drop_of_length_le (Nat.le_refl _)]; rfl)
   go_wp2_with fail
   go_ret
   rw [E.out]
   exact ⟨rfl, Hg.out⟩
set_option maxHeartbeats 1000000 in
theorem RPowerV_ok {B : Nat} (v : Value) (ds : List ValD) (key : Int) (w : World) (hr : RdS B w v ds.length 2 (setCells ds)) :
  Calls Tryz.prog 27 #[v, .int .u64 key] w fun e w' => e = .returned (.int .i64 (powL key ds)) ∧ w = w' := by
 obtain ⟨ao, c, rfl, hle, hcm, _, hrow⟩ := hr
 have Hrow := Lib.hid hrow
 unfold maxLen at hcm
 clear hrow
 go_enter Tryz.func27, Tryz.ntmps27
 go_wp2_with fail
 go_loopw [5] (fun i wr => ∃ k : Nat, k ≤ ds.length ∧ i = .int .i64 k ∧ powL key ds = powL key (ds.drop k) ∧ w = wr) (fun i _ => ds.length - (intOf i).toNat)
 case atStart => exact ⟨0, Nat.zero_le _, rfl, rfl, rfl⟩
 case round =>
  obtain ⟨k, hk, rfl, hs, rfl⟩ := hrel
  have Hs := Lib.hid hs; clear hs
  by_cases hlt : k < ds.length
  ·rcases Hrow.out with h0 | ⟨g, o, rfl, hg, hrow⟩
   ·omega
   have R := Lib.hid (RowAt.elem hrow (fun d _ => d.cells_length) k hlt)
   obtain ⟨d, hd⟩ : ∃ d, d = ds[k] := ⟨_, rfl⟩
   have Hd := Lib.hid (powL_drop hlt key)
   rw [← hd] at R Hd
   clear hd hrow hg
   have c0 := R.out 0 _ rfl; have c1 := R.out 1 _ rfl
   rw [Nat.add_zero] at c0
   obtain ⟨p, hp⟩ : ∃ p, d.power = p := ⟨_, rfl⟩
   obtain ⟨q, hq⟩ : ∃ q, d.key = q := ⟨_, rfl⟩
   rw [hp] at c1; rw [hq] at c0; rw [hp, hq] at Hd
   clear hp hq
   cases h1 : (q == key) with
   | true =>
    have E := Lib.hid (show powL key ds = p by rw [Hs.out, Hd.out, if_pos (by simpa using h1)])
    go_wp2_with fail
    go_ret
    rw [E.out]
    exact ⟨rfl, rfl⟩
   | false =>
    have E := Lib.hid (show powL key ds = powL key (ds.drop (k + 1)) by rw [Hs.out, Hd.out, if_neg (by simpa using h1)])
    go_wp2_with fail
    exact ⟨⟨k + 1, by omega, by go_num, E.out, trivial⟩, by simp [intOf]; omega⟩
  ·obtain rfl : k = ds.length := by omega
   have E := Lib.hid (show powL key ds = 0 by rw [Hs.out, List.drop_of_length_le (Nat.le_refl _)]; rfl)
   go_wp2_with fail
   go_ret
   rw [E.out]
   exact ⟨rfl, rfl⟩
def keyAt (ds : List ValD) (i : Nat) : Int := ((ds[i]?).map ValD.key).getD 0
def rise (ds : List ValD) : Nat → Bool
 | 0 => true
 | k + 1 => rise ds k && (k == 0 || decide (keyAt ds (k - 1) < keyAt ds k))
def rightL (ds : List ValD) : Bool := (sumL ds).isSome && rise ds ds.length && decide (1 ≤ ds.length) && decide (ds.length ≤ 64)
theorem rise_false {ds : List ValD} {k : Nat} (h : rise ds k = false) : ∀ n, k ≤ n → rise ds n = false
 | 0, hn => by obtain rfl : k = 0 := by omega
               exact h
 | n + 1, hn => by
  rcases Nat.lt_or_ge n k with h1 | h1
  ·obtain rfl : k = n + 1 := by omega
   exact h
  ·unfold rise; rw [rise_false h n h1]; rfl
theorem keyAt_get {ds : List ValD} {k : Nat} (h : k < ds.length) : keyAt ds k = ds[k].key := by simp [keyAt, h]
set_option maxHeartbeats 1000000 in
theorem vRight_ok {B : Nat} (v : Value) (ds : List ValD) (w : World) (hr : RdS B w v ds.length 2 (setCells ds)) :
  Calls Tryz.prog 94 #[v] w fun e w' => e = .returned (.bool (rightL ds)) ∧ w.grownBy w' none := by
 have CS := vsum_ok v ds w hr
 obtain ⟨s, hs⟩ : ∃ s, (sumL ds).isSome = s := ⟨_, rfl⟩
 have HS := Lib.hid hs
 rw [hs] at CS
 obtain ⟨ao, c, rfl, hle, hcm, _, hrow⟩ := hr
 have Hrow := Lib.hid hrow; have HC := Lib.hid CS
 unfold maxLen at hcm
 clear hrow CS hs
 go_enter Tryz.func94, Tryz.ntmps94
 go_wp2_with fail
 refine HC.out.mono ?_
 rintro e w1 ⟨rfl, g1⟩
 have G1 := Lib.hid g1
 clear g1 HC
 go_wp2_with fail
 go_loopw [4, 13] (fun x i wr => ∃ k : Nat, k ≤ ds.length ∧ i = .int .i64 k ∧ x = .bool (s && rise ds k) ∧ w.grownBy wr none) (fun _ i _ => ds.length - (intOf i).toNat)
 case atStart => exact ⟨0, Nat.zero_le _, rfl, by simp [rise], G1.out⟩
 case round =>
  obtain ⟨k, hk, rfl, rfl, hg⟩ := hrel
  have Hg := Lib.hid hg; clear hg G1
  by_cases hlt : k < ds.length
  ·rcases Hrow.out with h0 | ⟨g, o, rfl, hg, hrow⟩
   ·omega
   have R := Lib.hid (RowAt.elem (hrow.grown Hg.out (by simp)) (fun d _ => d.cells_length))
   cases hb : (s && rise ds k) with
   | false =>
    have E := Lib.hid (show (s && rise ds (k + 1)) = false by simp only [rise]; rw [← Bool.and_assoc, hb]; rfl)
    clear hrow hg
    go_wp2_with fail
    go_quiet (fail)
    go_wp2_with fail
    exact ⟨⟨k + 1, by omega, by go_num, by rw [E.out], Lib.grownBy_trans Hg.out (dr_grown _ _)⟩, by simp [intOf]; omega⟩
   | true =>
    rcases Nat.eq_zero_or_pos k with rfl | hpos
    ·have E := Lib.hid (show (s && rise ds (0 + 1)) = true by simpa [rise] using hb)
     clear hrow hg
     go_wp2_with fail
     go_quiet (fail)
     go_wp2_with fail
     exact ⟨⟨1, by omega, by go_num, by rw [E.out], Lib.grownBy_trans Hg.out (dr_grown _ _)⟩, by simp [intOf]; omega⟩
    ·have z : ((k : Int) == 0) = false := by simp; omega
     have k1 : ((k - 1 : Nat) : Int) = (k : Int) - 1 := by omega
     have c0 := R.out (k - 1) (by omega) 0 _ rfl
     have c1 := R.out k hlt 0 _ rfl
     rw [Nat.add_zero] at c0 c1
     rw [← keyAt_get (by omega)] at c0
     rw [← keyAt_get hlt] at c1
     obtain ⟨b, hb2⟩ : ∃ b, decide (keyAt ds (k - 1) < keyAt ds k) = b := ⟨_, rfl⟩
     have E := Lib.hid (show (s && rise ds (k + 1)) = b by rw [show rise ds (k + 1) = (rise ds k && (k == 0 || decide (keyAt ds (k - 1) < keyAt ds k))) from rfl, ← Bool.and_assoc, hb, hb2]; have : (k == 0) = false := by simp; omega
                                                           rw [this]; simp)
     clear hrow hg
     go_wp2_with fail
     go_quiet (fail)
     go_wp2_with fail
     exact ⟨⟨k + 1, by omega, by go_num, by rw [E.out], Lib.grownBy_trans Hg.out (dr_grown _ _)⟩, by simp [intOf]; omega⟩
  ·obtain rfl : k = ds.length := by omega
   cases hb : (s && rise ds ds.length) with
   | false =>
    have E := Lib.hid (show rightL ds = false by unfold rightL; rw [HS.out, hb]; rfl)
    go_wp2_with fail
    go_ret
    rw [E.out]
    exact ⟨rfl, Hg.out⟩
   | true =>
    obtain ⟨p, hp⟩ : ∃ p, decide ((1 : Int) ≤ (ds.length : Int)) = p := ⟨_, rfl⟩
    cases p with
    | false =>
     have E := Lib.hid (show rightL ds = false by unfold rightL; rw [HS.out, hb, show decide (1 ≤ ds.length) = false by have := of_decide_eq_false hp; exact decide_eq_false (by omega)]; rfl)
     go_wp2_with fail
     go_ret
     rw [E.out]
     exact ⟨rfl, Hg.out⟩
    | true =>
     obtain ⟨q, hq⟩ : ∃ q, decide ((ds.length : Int) ≤ 64) = q := ⟨_, rfl⟩
     have E := Lib.hid (show rightL ds = q by unfold rightL; rw [HS.out, hb, show decide (1 ≤ ds.length) = true by have := of_decide_eq_true hp; exact decide_eq_true (by omega), ← hq]; simp only [Bool.true_and]; exact decide_eq_decide.2 (by omega))
     go_wp2_with fail
     go_ret
     rw [E.out]
     exact ⟨rfl, Hg.out⟩
theorem rightL_sum {ds : List ValD} (h : rightL ds = true) : ∃ n, sumL ds = some n ∧ 0 ≤ n ∧ n ≤ 1125899906842624 := by
 have h1 : (sumL ds).isSome = true := by unfold rightL at h; simp only [Bool.and_eq_true] at h; exact h.1.1.1
 obtain ⟨n, hn⟩ := Option.isSome_iff_exists.1 h1
 exact ⟨n, hn, sumGo_range ds 0 n (by omega) (by omega) hn⟩
def totalL (ds : List ValD) : Int := if rightL ds then (sumL ds).getD 0 else 0
set_option maxHeartbeats 1000000 in
theorem vTotal_ok {B : Nat} (v : Value) (ds : List ValD) (w : World) (hr : RdS B w v ds.length 2 (setCells ds)) :
  Calls Tryz.prog 86 #[v] w fun e w' => e = .returned (.tuple #[.int .i64 (totalL ds), .int .i64 (if rightL ds then 0 else 71)]) ∧ w.grownBy w' none := by
 have CR := vRight_ok v ds w hr
 have HRD := Lib.hid hr
 obtain ⟨ao, c, hv, hle, hcm, _⟩ := hr
 cases h : rightL ds with
 | false =>
  have E := Lib.hid (show totalL ds = 0 by unfold totalL; rw [h]; rfl)
  rw [h] at CR
  have HC := Lib.hid CR
  subst hv
  clear CR h
  go_enter Tryz.func86, Tryz.ntmps86
  go_wp2_with fail
  refine HC.out.mono ?_
  rintro e w1 ⟨rfl, g1⟩
  have G1 := Lib.hid g1
  clear g1 HC
  go_wp2_with fail
  go_ret2
  rw [E.out]
  exact ⟨rfl, G1.out⟩
 | true =>
  have E := Lib.hid (show totalL ds = (sumL ds).getD 0 by unfold totalL; rw [h]; rfl)
  rw [h] at CR
  have HC := Lib.hid CR
  subst hv
  clear CR h
  go_enter Tryz.func86, Tryz.ntmps86
  go_wp2_with fail
  refine HC.out.mono ?_
  rintro e w1 ⟨rfl, g1⟩
  have G1 := Lib.hid g1
  clear g1 HC
  go_wp2_with fail
  refine (vsum_ok _ ds w1 (HRD.out.grown G1.out)).mono ?_
  rintro e w2 ⟨rfl, g2⟩
  have G2 := Lib.hid (Lib.grownBy_trans G1.out g2)
  clear g2 G1
  rw [← E.out]
  go_wp2_with fail
  go_ret2
  exact ⟨rfl, G2.out⟩
set_option maxHeartbeats 1000000 in
theorem RRightV_ok {B : Nat} (v : Value) (ds : List ValD) (w : World) (hr : RdS B w v ds.length 2 (setCells ds)) :
  Calls Tryz.prog 69 #[v] w fun e w' => e = .returned (.bool (rightL ds)) ∧ w.grownBy w' none := by
 have CS := RSumV_ok v ds w hr
 have HRD := Lib.hid hr
 obtain ⟨ao, c, hv, hle, hcm, _, hrow⟩ := hr
 have Hrow := Lib.hid hrow
 unfold maxLen at hcm
 clear hrow
 cases h1 : decide ((ds.length : Int) < 1) with
 | true =>
  have E := Lib.hid (show rightL ds = false by
   have := of_decide_eq_true h1
   unfold rightL; rw [decide_eq_false (show ¬ 1 ≤ ds.length by omega)]; simp)
  subst hv
  clear CS
  go_enter Tryz.func69, Tryz.ntmps69
  go_wp2_with fail
  go_ret
  rw [E.out]
  exact ⟨rfl, gb_refl _⟩
 | false =>
  cases h2 : decide (64 < (ds.length : Int)) with
  | true =>
   have E := Lib.hid (show rightL ds = false by
    have := of_decide_eq_true h2
    unfold rightL; rw [decide_eq_false (show ¬ ds.length ≤ 64 by omega)]; simp)
   subst hv
   clear CS
   go_enter Tryz.func69, Tryz.ntmps69
   go_wp2_with fail
   go_ret
   rw [E.out]
   exact ⟨rfl, gb_refl _⟩
  | false =>
   have l1 : 1 ≤ ds.length := by have := of_decide_eq_false h1; omega
   have l2 : ds.length ≤ 64 := by have := of_decide_eq_false h2; omega
   cases hs : sumL ds with
   | none =>
    have E := Lib.hid (show rightL ds = false by unfold rightL; rw [hs]; simp)
    rw [hs] at CS
    have HC := Lib.hid CS
    subst hv
    clear CS hs
    go_enter Tryz.func69, Tryz.ntmps69
    go_wp2_with (go_at_call 30; (with_reducible refine HC.out.mono ?_); rintro e w' ⟨rfl, rfl⟩)
    go_ret
    rw [E.out]
    exact ⟨rfl, gb_refl _⟩
   | some n =>
    have hn := sumGo_range ds 0 n (by omega) (by omega) hs
    have h3 : decide (n < 0) = false := decide_eq_false (by omega)
    have E0 := Lib.hid (show rightL ds = rise ds ds.length by unfold rightL; rw [hs, decide_eq_true l1, decide_eq_true l2]; simp)
    rw [hs] at CS
    have HC := Lib.hid CS
    subst hv
    clear CS hs hn
    go_enter Tryz.func69, Tryz.ntmps69
    go_wp2_with (go_at_call 30; (with_reducible refine HC.out.mono ?_); rintro e w' ⟨rfl, rfl⟩)
    go_loopw [3] (fun i wr => ∃ k : Nat, 1 ≤ k ∧ k ≤ ds.length ∧ i = .int .i64 k ∧ rise ds k = true ∧ w.grownBy wr none) (fun i _ => ds.length - (intOf i).toNat)
    case atStart => exact ⟨1, by omega, by omega, rfl, by simp [rise], gb_refl _⟩
    case round =>
     obtain ⟨k, hk1, hk, rfl, hri, hg⟩ := hrel
     have Hg := Lib.hid hg; have Hri := Lib.hid hri; clear hg hri
     by_cases hlt : k < ds.length
     ·rcases Hrow.out with h0 | ⟨g, o, rfl, hg, hrow⟩
      ·omega
      have R := Lib.hid (RowAt.elem (hrow.grown Hg.out (by simp)) (fun d _ => d.cells_length))
      have k1 : ((k - 1 : Nat) : Int) = (k : Int) - 1 := by omega
      have c0 := R.out (k - 1) (by omega) 0 _ rfl
      have c1 := R.out k hlt 0 _ rfl
      rw [Nat.add_zero] at c0 c1
      rw [← keyAt_get (by omega)] at c0
      rw [← keyAt_get hlt] at c1
      have ER := Lib.hid (show rise ds (k + 1) = decide (keyAt ds (k - 1) < keyAt ds k) by
       rw [show rise ds (k + 1) = (rise ds k && (k == 0 || decide (keyAt ds (k - 1) < keyAt ds k))) from rfl, Hri.out]
       have : (k == 0) = false := by simp; omega
       rw [this]; simp)
      obtain ⟨p, hp⟩ : ∃ p, keyAt ds (k - 1) = p := ⟨_, rfl⟩
      obtain ⟨q, hq⟩ : ∃ q, keyAt ds k = q := ⟨_, rfl⟩
      rw [hp] at c0; rw [hq] at c1; rw [hp, hq] at ER
      clear hrow hg hp hq
      cases hb : decide (q ≤ p) with
      | true =>
       have E := Lib.hid (show rightL ds = false by
        have := of_decide_eq_true hb
        rw [E0.out]; exact rise_false (by rw [ER.out]; exact decide_eq_false (by omega)) _ hlt)
       go_wp2_with fail
       go_quiet (fail)
       go_wp2_with fail
       go_ret
       rw [E.out]
       exact ⟨rfl, Lib.grownBy_trans Hg.out (dr_grown _ _)⟩
      | false =>
       have E := Lib.hid (show rise ds (k + 1) = true by
        have := of_decide_eq_false hb
        rw [ER.out]; exact decide_eq_true (by omega))
       go_wp2_with fail
       go_quiet (fail)
       go_wp2_with fail
       exact ⟨⟨k + 1, by omega, by omega, by go_num, E.out, Lib.grownBy_trans Hg.out (dr_grown _ _)⟩, by simp [intOf]; omega⟩
     ·obtain rfl : k = ds.length := by omega
      go_wp2_with fail
      go_ret
      rw [E0.out, Hri.out]
      exact ⟨rfl, Hg.out⟩
open Go.RowKit Go.Shelf
def cloneRen : Go.Shelf.Ren := ⟨fun | 41 => 114 | n => n, fun | 4 => 4 | 3 => 3 | 22 => 29 | 23 => 115 | n => n, fun | n => n⟩
theorem cloneLays : SlLaysE0.n41 Tryz.prog cloneRen := {
 mixed := by kernel_rfl
 f41 := ⟨Tryz.f114.name, by decide +kernel, Tryz.func114.trans (congrArg some (by kernel_rfl))⟩
 t4 := Tryz.underlying4
 a4 := Tryz.isAgg4
 z4 := Tryz.sizeOf4
 v4 := Tryz.zeroValue4
 t22 := Tryz.underlying29
 a22 := Tryz.isAgg29
 z22 := Tryz.sizeOf29
 v22 := Tryz.zeroValue29 }
noncomputable def valI : TypeInfo := (Tryz.prog.info? 115).get (by kernel_rfl)
theorem setCells_one (ds : List ValD) : ∀ u ∈ setCells ds, u.oneCell' = true := by
 intro u hu
 obtain ⟨d, _, hd⟩ := List.mem_flatMap.1 hu
 exact ValD_one d u hd
theorem sumGo_sum : ∀ (ds : List ValD) (n m : Int), n ≤ 1125899906842624 → sumGo n ds = some m → (∀ d ∈ ds, 1 ≤ d.power) ∧ m = n + (ds.map (·.power)).sum ∧ m ≤ 1125899906842624
 | [], n, m, h0, h => by simp only [sumGo, Option.some.injEq] at h; subst h; simp; exact h0
 | d :: l, n, m, h0, h => by
  unfold sumGo at h
  split at h
  ·cases h
  split at h
  ·cases h
  obtain ⟨h1, h2, h3⟩ := sumGo_sum l _ m (by omega) h
  refine ⟨fun x hx => ?_, by rw [h2, List.map_cons, List.sum_cons]; omega, h3⟩
  rcases List.mem_cons.1 hx with rfl | hx
  ·omega
  ·exact h1 x hx
theorem right_sum {ds : List ValD} (h : rightL ds = true) : (∀ d ∈ ds, 1 ≤ d.power) ∧ totalL ds = (ds.map (·.power)).sum ∧ totalL ds ≤ 1125899906842624 := by
 have h0 := h
 unfold rightL at h
 simp only [Bool.and_eq_true] at h
 obtain ⟨m, hm⟩ := Option.isSome_iff_exists.1 h.1.1.1
 have hm' := hm
 unfold sumL at hm
 obtain ⟨h1, h2, h3⟩ := sumGo_sum ds 0 m (by decide) hm
 have e : totalL ds = m := by unfold totalL; rw [if_pos h0, hm']; rfl
 exact ⟨h1, by rw [e, h2]; omega, by rw [e]; exact h3⟩
end Go.Proofs.YtdhchehagfmjcaaGreatDoor
