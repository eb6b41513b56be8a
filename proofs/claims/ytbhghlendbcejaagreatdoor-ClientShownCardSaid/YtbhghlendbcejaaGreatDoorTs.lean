/- Walks: valset.sum, Right, Total, Power; nuncioref07.Sum, Right, Power. slices.Clone at api.Validator: the kit's contract, laid. -/
import Derived.Test.YtbhghlendbcejaaGreatDoorEncode
import Derived.Test.YtbhghlendbcejaaGreatDoorRefB
import Derived.Shelf.SlicesE.Clone
namespace Go.Proofs.YtbhghlendbcejaaGreatDoor
open Go.RowKit
set_option maxRecDepth 100000

def sumGo : Int → List ValD → Option Int
  | n, [] => some n
  | n, v :: l => if v.power < 1 then none else if 1125899906842624 - n < v.power then none else sumGo (n + v.power) l
def sumL (ds : List ValD) : Option Int := sumGo 0 ds
theorem sumGo_drop {ds : List ValD} {k : Nat} (h : k < ds.length) (n : Int) : sumGo n (ds.drop k) = if ds[k].power < 1 then none else if 1125899906842624 - n < ds[k].power then none else sumGo (n + ds[k].power) (ds.drop (k + 1)) := by
  rw [List.drop_eq_getElem_cons h]; rfl
theorem sumGo_range : ∀ (ds : List ValD) (n m : Int), 0 ≤ n → n ≤ 1125899906842624 → sumGo n ds = some m → 0 ≤ m ∧ m ≤ 1125899906842624
  | [], n, m, h0, h1, h => by simp only [sumGo, Option.some.injEq] at h; omega
  | v :: l, n, m, h0, h1, h => by
    unfold sumGo at h
    split at h
    · cases h
    · split at h
      · cases h
      · exact sumGo_range l _ m (by omega) (by omega) h
def powL (key : Int) : List ValD → Int
  | [] => 0
  | v :: l => if v.key = key then v.power else powL key l
theorem powL_drop {ds : List ValD} {k : Nat} (h : k < ds.length) (key : Int) : powL key (ds.drop k) = if ds[k].key = key then ds[k].power else powL key (ds.drop (k + 1)) := by
  rw [List.drop_eq_getElem_cons h]; rfl
theorem dr_grown (w : World) (n : Nat) : w.grownBy (w.drewN n) none := ⟨rfl, rfl, rfl, Nat.le_refl _, fun _ _ _ => rfl⟩
theorem gb_refl {row : Option Nat} (w : World) : w.grownBy w row := ⟨rfl, rfl, rfl, Nat.le_refl _, fun _ _ _ => rfl⟩
theorem i64_val {a b : Int} (h : a = b) : Value.int .i64 a = .int .i64 b := by rw [h]

set_option maxHeartbeats 1000000 in
theorem vsum_ok {B : Nat} (v : Value) (ds : List ValD) (w : World) (hr : RdS B w v ds.length 2 (setCells ds)) :
    Calls Tryz.prog 141 #[v] w fun e w' => e = .returned (.tuple #[.int .i64 ((sumL ds).getD 0), .bool (sumL ds).isSome]) ∧ w.grownBy w' none := by
  obtain ⟨ao, c, rfl, hle, hcm, _, hrow⟩ := hr
  have Hrow := Lib.hid hrow
  unfold maxLen at hcm
  clear hrow
  go_enter Tryz.func141, Tryz.ntmps141
  go_wp2_with fail
  go_loopw [4, 9] (fun x i wr => ∃ k : Nat, ∃ n : Int, k ≤ ds.length ∧ i = .int .i64 k ∧ x = .int .i64 n ∧ 0 ≤ n ∧ n ≤ 1125899906842624 ∧ sumL ds = sumGo n (ds.drop k) ∧ w.grownBy wr none) (fun _ i _ => ds.length - (intOf i).toNat)
  case atStart => exact ⟨0, 0, Nat.zero_le _, rfl, rfl, by omega, by omega, rfl, gb_refl _⟩
  case round =>
    obtain ⟨k, n, hk, rfl, rfl, hn0, hn1, hs, hg⟩ := hrel
    have Hs := Lib.hid hs; have Hg := Lib.hid hg; clear hs hg
    by_cases hlt : k < ds.length
    · rcases Hrow.out with h0 | ⟨g, o, rfl, hg, hrow⟩
      · omega
      have R := Lib.hid (RowAt.elem (hrow.grown Hg.out (by simp)) (fun d _ => d.cells_length) k hlt)
      obtain ⟨d, hd⟩ : ∃ d, d = ds[k] := ⟨_, rfl⟩
      have Hd := Lib.hid (sumGo_drop hlt n)
      rw [← hd] at R Hd
      clear hd hrow hg
      go_wp2_with (first | (refine wpList_load_part rfl 131 _ rfl g (o + k * 2) rfl d.cells _ R.out Tryz.underlying131 rfl sizeVal ?_) | (refine wpList_alloc_as rfl 131 rfl ZVal ZVal_info ?_))
      intro w4 b4 g4 s4
      have B4 := Lib.hid b4; have G4 := Lib.hid g4; clear b4 g4 s4
      go_wp2_with (refine wpList_store_whole rfl 131 _ _ rfl wr.heap.size rfl d.cells ZVal 131 rfl B4.out rfl (ValD_one d) sizeVal ?_)
      intro w5 g5 s5 b5
      have Gn := Lib.hid (Lib.grownBy_trans Hg.out (grown_new G4.out g5 (Nat.le_refl _)))
      have c := b5.row 1 _ rfl; rw [Nat.zero_add] at c
      clear b5 g5 s5 B4 G4
      obtain ⟨p, hp⟩ : ∃ p, d.power = p := ⟨_, rfl⟩
      rw [hp] at c Hd
      clear hp
      cases h1 : decide (p < 1) with
      | true =>
        have E := Lib.hid (show sumL ds = none by rw [Hs.out, Hd.out, if_pos (by simpa using h1)])
        go_wp2_with fail
        go_ret2
        rw [E.out]
        exact ⟨rfl, Gn.out⟩
      | false =>
        cases h2 : decide (1125899906842624 - n < p) with
        | true =>
          have E := Lib.hid (show sumL ds = none by rw [Hs.out, Hd.out, if_neg (by simpa using h1), if_pos (by simpa using h2)])
          go_wp2_with fail
          go_ret2
          rw [E.out]
          exact ⟨rfl, Gn.out⟩
        | false =>
          have E := Lib.hid (show sumL ds = sumGo (n + p) (ds.drop (k + 1)) by rw [Hs.out, Hd.out, if_neg (by simpa using h1), if_neg (by simpa using h2)])
          have p1 : 1 ≤ p := by simpa using h1
          have p2 : p ≤ 1125899906842624 - n := by simpa using h2
          go_wp2_with fail
          exact ⟨⟨k + 1, n + p, by omega, by go_num, rfl, by omega, by omega, E.out, Gn.out⟩, by simp [intOf]; omega⟩
    · obtain rfl : k = ds.length := by omega
      have E := Lib.hid (show sumL ds = some n by rw [Hs.out, List.drop_of_length_le (Nat.le_refl _)]; rfl)
      go_wp2_with fail
      go_ret2
      rw [E.out]
      exact ⟨rfl, Hg.out⟩

set_option maxHeartbeats 1000000 in
theorem RSumV_ok {B : Nat} (v : Value) (ds : List ValD) (w : World) (hr : RdS B w v ds.length 2 (setCells ds)) :
    Calls Tryz.prog 55 #[v] w fun e w' => e = .returned (.int .i64 ((sumL ds).getD (-1))) ∧ w = w' := by
  obtain ⟨ao, c, rfl, hle, hcm, _, hrow⟩ := hr
  have Hrow := Lib.hid hrow
  unfold maxLen at hcm
  clear hrow
  go_enter Tryz.func55, Tryz.ntmps55
  go_wp2_with fail
  go_loopw [3, 4] (fun x i wr => ∃ k : Nat, ∃ n : Int, k ≤ ds.length ∧ i = .int .i64 k ∧ x = .int .i64 n ∧ 0 ≤ n ∧ n ≤ 1125899906842624 ∧ sumL ds = sumGo n (ds.drop k) ∧ w = wr) (fun _ i _ => ds.length - (intOf i).toNat)
  case atStart => exact ⟨0, 0, Nat.zero_le _, rfl, rfl, by omega, by omega, rfl, rfl⟩
  case round =>
    obtain ⟨k, n, hk, rfl, rfl, hn0, hn1, hs, rfl⟩ := hrel
    have Hs := Lib.hid hs; clear hs
    by_cases hlt : k < ds.length
    · rcases Hrow.out with h0 | ⟨g, o, rfl, hg, hrow⟩
      · omega
      have R := Lib.hid (RowAt.elem hrow (fun d _ => d.cells_length) k hlt)
      obtain ⟨d, hd⟩ : ∃ d, d = ds[k] := ⟨_, rfl⟩
      have Hd := Lib.hid (sumGo_drop hlt n)
      rw [← hd] at R Hd
      clear hd hrow hg
      have c := R.out 1 _ rfl
      obtain ⟨p, hp⟩ : ∃ p, d.power = p := ⟨_, rfl⟩
      rw [hp] at c Hd
      clear hp
      cases h1 : decide (p < 1) with
      | true =>
        have E := Lib.hid (show sumL ds = none by rw [Hs.out, Hd.out, if_pos (by simpa using h1)])
        go_wp2_with fail
        go_ret
        rw [E.out]
        exact ⟨rfl, rfl⟩
      | false =>
        cases h2 : decide (1125899906842624 - n < p) with
        | true =>
          have E := Lib.hid (show sumL ds = none by rw [Hs.out, Hd.out, if_neg (by simpa using h1), if_pos (by simpa using h2)])
          go_wp2_with fail
          go_ret
          rw [E.out]
          exact ⟨rfl, rfl⟩
        | false =>
          have E := Lib.hid (show sumL ds = sumGo (n + p) (ds.drop (k + 1)) by rw [Hs.out, Hd.out, if_neg (by simpa using h1), if_neg (by simpa using h2)])
          have p1 : 1 ≤ p := by simpa using h1
          have p2 : p ≤ 1125899906842624 - n := by simpa using h2
          go_wp2_with fail
          exact ⟨⟨k + 1, n + p, by omega, by go_num, rfl, by omega, by omega, E.out, trivial⟩, by simp [intOf]; omega⟩
    · obtain rfl : k = ds.length := by omega
      have E := Lib.hid (show sumL ds = some n by rw [Hs.out, List.drop_of_length_le (Nat.le_refl _)]; rfl)
      go_wp2_with fail
      go_ret
      rw [E.out]
      exact ⟨rfl, rfl⟩

set_option maxHeartbeats 1000000 in
theorem vPower_ok {B : Nat} (v : Value) (ds : List ValD) (key : Int) (w : World) (hr : RdS B w v ds.length 2 (setCells ds)) :
    Calls Tryz.prog 143 #[v, .int .u64 key] w fun e w' => e = .returned (.int .i64 (powL key ds)) ∧ w.grownBy w' none := by
  obtain ⟨ao, c, rfl, hle, hcm, _, hrow⟩ := hr
  have Hrow := Lib.hid hrow
  unfold maxLen at hcm
  clear hrow
  go_enter Tryz.func143, Tryz.ntmps143
  go_wp2_with fail
  go_loopw [9] (fun i wr => ∃ k : Nat, k ≤ ds.length ∧ i = .int .i64 k ∧ powL key ds = powL key (ds.drop k) ∧ w.grownBy wr none) (fun i _ => ds.length - (intOf i).toNat)
  case atStart => exact ⟨0, Nat.zero_le _, rfl, rfl, gb_refl _⟩
  case round =>
    obtain ⟨k, hk, rfl, hs, hg⟩ := hrel
    have Hs := Lib.hid hs; have Hg := Lib.hid hg; clear hs hg
    by_cases hlt : k < ds.length
    · rcases Hrow.out with h0 | ⟨g, o, rfl, hg, hrow⟩
      · omega
      have R := Lib.hid (RowAt.elem (hrow.grown Hg.out (by simp)) (fun d _ => d.cells_length) k hlt)
      obtain ⟨d, hd⟩ : ∃ d, d = ds[k] := ⟨_, rfl⟩
      have Hd := Lib.hid (powL_drop hlt key)
      rw [← hd] at R Hd
      clear hd hrow hg
      go_wp2_with (first | (refine wpList_load_part rfl 131 _ rfl g (o + k * 2) rfl d.cells _ R.out Tryz.underlying131 rfl sizeVal ?_) | (refine wpList_alloc_as rfl 131 rfl ZVal ZVal_info ?_))
      intro w4 b4 g4 s4
      have B4 := Lib.hid b4; have G4 := Lib.hid g4; clear b4 g4 s4
      go_wp2_with (refine wpList_store_whole rfl 131 _ _ rfl wr.heap.size rfl d.cells ZVal 131 rfl B4.out rfl (ValD_one d) sizeVal ?_)
      intro w5 g5 s5 b5
      have Gn := Lib.hid (Lib.grownBy_trans Hg.out (grown_new G4.out g5 (Nat.le_refl _)))
      have c0 := b5.row 0 _ rfl; have c1 := b5.row 1 _ rfl; rw [Nat.zero_add] at c0 c1
      clear b5 g5 s5 B4 G4
      obtain ⟨p, hp⟩ : ∃ p, d.power = p := ⟨_, rfl⟩
      obtain ⟨q, hq⟩ : ∃ q, d.key = q := ⟨_, rfl⟩
      rw [hp] at c1; rw [hq] at c0; rw [hp, hq] at Hd
      clear hp hq
      cases h1 : (q == key) with
      | true =>
        have E := Lib.hid (show powL key ds = p by rw [Hs.out, Hd.out, if_pos (by simpa using h1)])
        go_wp2_with fail
        go_ret
        rw [E.out]
        exact ⟨rfl, Gn.out⟩
      | false =>
        have E := Lib.hid (show powL key ds = powL key (ds.drop (k + 1)) by rw [Hs.out, Hd.out, if_neg (by simpa using h1)])
        go_wp2_with fail
        exact ⟨⟨k + 1, by omega, by go_num, E.out, Gn.out⟩, by simp [intOf]; omega⟩
    · obtain rfl : k = ds.length := by omega
      have E := Lib.hid (show powL key ds = 0 by rw [Hs.out, List.drop_of_length_le (Nat.le_refl _)]; rfl)
      go_wp2_with fail
      go_ret
      rw [E.out]
      exact ⟨rfl, Hg.out⟩

set_option maxHeartbeats 1000000 in
theorem RPowerV_ok {B : Nat} (v : Value) (ds : List ValD) (key : Int) (w : World) (hr : RdS B w v ds.length 2 (setCells ds)) :
    Calls Tryz.prog 87 #[v, .int .u64 key] w fun e w' => e = .returned (.int .i64 (powL key ds)) ∧ w = w' := by
  obtain ⟨ao, c, rfl, hle, hcm, _, hrow⟩ := hr
  have Hrow := Lib.hid hrow
  unfold maxLen at hcm
  clear hrow
  go_enter Tryz.func87, Tryz.ntmps87
  go_wp2_with fail
  go_loopw [5] (fun i wr => ∃ k : Nat, k ≤ ds.length ∧ i = .int .i64 k ∧ powL key ds = powL key (ds.drop k) ∧ w = wr) (fun i _ => ds.length - (intOf i).toNat)
  case atStart => exact ⟨0, Nat.zero_le _, rfl, rfl, rfl⟩
  case round =>
    obtain ⟨k, hk, rfl, hs, rfl⟩ := hrel
    have Hs := Lib.hid hs; clear hs
    by_cases hlt : k < ds.length
    · rcases Hrow.out with h0 | ⟨g, o, rfl, hg, hrow⟩
      · omega
      have R := Lib.hid (RowAt.elem hrow (fun d _ => d.cells_length) k hlt)
      obtain ⟨d, hd⟩ : ∃ d, d = ds[k] := ⟨_, rfl⟩
      have Hd := Lib.hid (powL_drop hlt key)
      rw [← hd] at R Hd
      clear hd hrow hg
      have c0 := R.out 0 _ rfl; have c1 := R.out 1 _ rfl
      rw [Nat.add_zero] at c0
      obtain ⟨p, hp⟩ : ∃ p, d.power = p := ⟨_, rfl⟩
      obtain ⟨q, hq⟩ : ∃ q, d.key = q := ⟨_, rfl⟩
      rw [hp] at c1; rw [hq] at c0; rw [hp, hq] at Hd
      clear hp hq
      cases h1 : (q == key) with
      | true =>
        have E := Lib.hid (show powL key ds = p by rw [Hs.out, Hd.out, if_pos (by simpa using h1)])
        go_wp2_with fail
        go_ret
        rw [E.out]
        exact ⟨rfl, rfl⟩
      | false =>
        have E := Lib.hid (show powL key ds = powL key (ds.drop (k + 1)) by rw [Hs.out, Hd.out, if_neg (by simpa using h1)])
        go_wp2_with fail
        exact ⟨⟨k + 1, by omega, by go_num, E.out, trivial⟩, by simp [intOf]; omega⟩
    · obtain rfl : k = ds.length := by omega
      have E := Lib.hid (show powL key ds = 0 by rw [Hs.out, List.drop_of_length_le (Nat.le_refl _)]; rfl)
      go_wp2_with fail
      go_ret
      rw [E.out]
      exact ⟨rfl, rfl⟩

def keyAt (ds : List ValD) (i : Nat) : Int := ((ds[i]?).map ValD.key).getD 0
def rise (ds : List ValD) : Nat → Bool
  | 0 => true
  | k + 1 => rise ds k && (k == 0 || decide (keyAt ds (k - 1) < keyAt ds k))
def rightL (ds : List ValD) : Bool := (sumL ds).isSome && rise ds ds.length && decide (1 ≤ ds.length) && decide (ds.length ≤ 64)
theorem rise_false {ds : List ValD} {k : Nat} (h : rise ds k = false) : ∀ n, k ≤ n → rise ds n = false
  | 0, hn => by obtain rfl : k = 0 := by omega
                exact h
  | n + 1, hn => by
    rcases Nat.lt_or_ge n k with h1 | h1
    · obtain rfl : k = n + 1 := by omega
      exact h
    · unfold rise; rw [rise_false h n h1]; rfl
theorem keyAt_get {ds : List ValD} {k : Nat} (h : k < ds.length) : keyAt ds k = ds[k].key := by simp [keyAt, h]

set_option maxHeartbeats 1000000 in
theorem vRight_ok {B : Nat} (v : Value) (ds : List ValD) (w : World) (hr : RdS B w v ds.length 2 (setCells ds)) :
    Calls Tryz.prog 102 #[v] w fun e w' => e = .returned (.bool (rightL ds)) ∧ w.grownBy w' none := by
  have CS := vsum_ok v ds w hr
  obtain ⟨s, hs⟩ : ∃ s, (sumL ds).isSome = s := ⟨_, rfl⟩
  have HS := Lib.hid hs
  rw [hs] at CS
  obtain ⟨ao, c, rfl, hle, hcm, _, hrow⟩ := hr
  have Hrow := Lib.hid hrow; have HC := Lib.hid CS
  unfold maxLen at hcm
  clear hrow CS hs
  go_enter Tryz.func102, Tryz.ntmps102
  go_wp2_with fail
  refine HC.out.mono ?_
  rintro e w1 ⟨rfl, g1⟩
  have G1 := Lib.hid g1
  clear g1 HC
  go_wp2_with fail
  go_loopw [4, 13] (fun x i wr => ∃ k : Nat, k ≤ ds.length ∧ i = .int .i64 k ∧ x = .bool (s && rise ds k) ∧ w.grownBy wr none) (fun _ i _ => ds.length - (intOf i).toNat)
  case atStart => exact ⟨0, Nat.zero_le _, rfl, by simp [rise], G1.out⟩
  case round =>
    obtain ⟨k, hk, rfl, rfl, hg⟩ := hrel
    have Hg := Lib.hid hg; clear hg G1
    by_cases hlt : k < ds.length
    · rcases Hrow.out with h0 | ⟨g, o, rfl, hg, hrow⟩
      · omega
      have R := Lib.hid (RowAt.elem (hrow.grown Hg.out (by simp)) (fun d _ => d.cells_length))
      cases hb : (s && rise ds k) with
      | false =>
        have E := Lib.hid (show (s && rise ds (k + 1)) = false by simp only [rise]; rw [← Bool.and_assoc, hb]; rfl)
        clear hrow hg
        go_wp2_with fail
        go_quiet (fail)
        go_wp2_with fail
        exact ⟨⟨k + 1, by omega, by go_num, by rw [E.out], Lib.grownBy_trans Hg.out (dr_grown _ _)⟩, by simp [intOf]; omega⟩
      | true =>
        rcases Nat.eq_zero_or_pos k with rfl | hpos
        · have E := Lib.hid (show (s && rise ds (0 + 1)) = true by simpa [rise] using hb)
          clear hrow hg
          go_wp2_with fail
          go_quiet (fail)
          go_wp2_with fail
          exact ⟨⟨1, by omega, by go_num, by rw [E.out], Lib.grownBy_trans Hg.out (dr_grown _ _)⟩, by simp [intOf]; omega⟩
        · have z : ((k : Int) == 0) = false := by simp; omega
          have k1 : ((k - 1 : Nat) : Int) = (k : Int) - 1 := by omega
          have c0 := R.out (k - 1) (by omega) 0 _ rfl
          have c1 := R.out k hlt 0 _ rfl
          rw [Nat.add_zero] at c0 c1
          rw [← keyAt_get (by omega)] at c0
          rw [← keyAt_get hlt] at c1
          obtain ⟨b, hb2⟩ : ∃ b, decide (keyAt ds (k - 1) < keyAt ds k) = b := ⟨_, rfl⟩
          have E := Lib.hid (show (s && rise ds (k + 1)) = b by rw [show rise ds (k + 1) = (rise ds k && (k == 0 || decide (keyAt ds (k - 1) < keyAt ds k))) from rfl, ← Bool.and_assoc, hb, hb2]; have : (k == 0) = false := by simp; omega
                                                                rw [this]; simp)
          clear hrow hg
          go_wp2_with fail
          go_quiet (fail)
          go_wp2_with fail
          exact ⟨⟨k + 1, by omega, by go_num, by rw [E.out], Lib.grownBy_trans Hg.out (dr_grown _ _)⟩, by simp [intOf]; omega⟩
    · obtain rfl : k = ds.length := by omega
      cases hb : (s && rise ds ds.length) with
      | false =>
        have E := Lib.hid (show rightL ds = false by unfold rightL; rw [HS.out, hb]; rfl)
        go_wp2_with fail
        go_ret
        rw [E.out]
        exact ⟨rfl, Hg.out⟩
      | true =>
        obtain ⟨p, hp⟩ : ∃ p, decide ((1 : Int) ≤ (ds.length : Int)) = p := ⟨_, rfl⟩
        cases p with
        | false =>
          have E := Lib.hid (show rightL ds = false by unfold rightL; rw [HS.out, hb, show decide (1 ≤ ds.length) = false by have := of_decide_eq_false hp; exact decide_eq_false (by omega)]; rfl)
          go_wp2_with fail
          go_ret
          rw [E.out]
          exact ⟨rfl, Hg.out⟩
        | true =>
          obtain ⟨q, hq⟩ : ∃ q, decide ((ds.length : Int) ≤ 64) = q := ⟨_, rfl⟩
          have E := Lib.hid (show rightL ds = q by unfold rightL; rw [HS.out, hb, show decide (1 ≤ ds.length) = true by have := of_decide_eq_true hp; exact decide_eq_true (by omega), ← hq]; simp only [Bool.true_and]; exact decide_eq_decide.2 (by omega))
          go_wp2_with fail
          go_ret
          rw [E.out]
          exact ⟨rfl, Hg.out⟩

theorem rightL_sum {ds : List ValD} (h : rightL ds = true) : ∃ n, sumL ds = some n ∧ 0 ≤ n ∧ n ≤ 1125899906842624 := by
  have h1 : (sumL ds).isSome = true := by unfold rightL at h; simp only [Bool.and_eq_true] at h; exact h.1.1.1
  obtain ⟨n, hn⟩ := Option.isSome_iff_exists.1 h1
  exact ⟨n, hn, sumGo_range ds 0 n (by omega) (by omega) hn⟩
def totalL (ds : List ValD) : Int := if rightL ds then (sumL ds).getD 0 else 0
set_option maxHeartbeats 1000000 in
theorem vTotal_ok {B : Nat} (v : Value) (ds : List ValD) (w : World) (hr : RdS B w v ds.length 2 (setCells ds)) :
    Calls Tryz.prog 104 #[v] w fun e w' => e = .returned (.tuple #[.int .i64 (totalL ds), .int .i64 (if rightL ds then 0 else 71)]) ∧ w.grownBy w' none := by
  have CR := vRight_ok v ds w hr
  have HRD := Lib.hid hr
  obtain ⟨ao, c, hv, hle, hcm, _⟩ := hr
  cases h : rightL ds with
  | false =>
    have E := Lib.hid (show totalL ds = 0 by unfold totalL; rw [h]; rfl)
    rw [h] at CR
    have HC := Lib.hid CR
    subst hv
    clear CR h
    go_enter Tryz.func104, Tryz.ntmps104
    go_wp2_with fail
    refine HC.out.mono ?_
    rintro e w1 ⟨rfl, g1⟩
    have G1 := Lib.hid g1
    clear g1 HC
    go_wp2_with fail
    go_ret2
    rw [E.out]
    exact ⟨rfl, G1.out⟩
  | true =>
    have E := Lib.hid (show totalL ds = (sumL ds).getD 0 by unfold totalL; rw [h]; rfl)
    rw [h] at CR
    have HC := Lib.hid CR
    subst hv
    clear CR h
    go_enter Tryz.func104, Tryz.ntmps104
    go_wp2_with fail
    refine HC.out.mono ?_
    rintro e w1 ⟨rfl, g1⟩
    have G1 := Lib.hid g1
    clear g1 HC
    go_wp2_with fail
    refine (vsum_ok _ ds w1 (HRD.out.grown G1.out)).mono ?_
    rintro e w2 ⟨rfl, g2⟩
    have G2 := Lib.hid (Lib.grownBy_trans G1.out g2)
    clear g2 G1
    rw [← E.out]
    go_wp2_with fail
    go_ret2
    exact ⟨rfl, G2.out⟩

set_option maxHeartbeats 1000000 in
theorem RRightV_ok {B : Nat} (v : Value) (ds : List ValD) (w : World) (hr : RdS B w v ds.length 2 (setCells ds)) :
    Calls Tryz.prog 85 #[v] w fun e w' => e = .returned (.bool (rightL ds)) ∧ w.grownBy w' none := by
  have CS := RSumV_ok v ds w hr
  have HRD := Lib.hid hr
  obtain ⟨ao, c, hv, hle, hcm, _, hrow⟩ := hr
  have Hrow := Lib.hid hrow
  unfold maxLen at hcm
  clear hrow
  cases h1 : decide ((ds.length : Int) < 1) with
  | true =>
    have E := Lib.hid (show rightL ds = false by
      have := of_decide_eq_true h1
      unfold rightL; rw [decide_eq_false (show ¬ 1 ≤ ds.length by omega)]; simp)
    subst hv
    clear CS
    go_enter Tryz.func85, Tryz.ntmps85
    go_wp2_with fail
    go_ret
    rw [E.out]
    exact ⟨rfl, gb_refl _⟩
  | false =>
    cases h2 : decide (64 < (ds.length : Int)) with
    | true =>
      have E := Lib.hid (show rightL ds = false by
        have := of_decide_eq_true h2
        unfold rightL; rw [decide_eq_false (show ¬ ds.length ≤ 64 by omega)]; simp)
      subst hv
      clear CS
      go_enter Tryz.func85, Tryz.ntmps85
      go_wp2_with fail
      go_ret
      rw [E.out]
      exact ⟨rfl, gb_refl _⟩
    | false =>
      have l1 : 1 ≤ ds.length := by have := of_decide_eq_false h1; omega
      have l2 : ds.length ≤ 64 := by have := of_decide_eq_false h2; omega
      cases hs : sumL ds with
      | none =>
        have E := Lib.hid (show rightL ds = false by unfold rightL; rw [hs]; simp)
        rw [hs] at CS
        have HC := Lib.hid CS
        subst hv
        clear CS hs
        go_enter Tryz.func85, Tryz.ntmps85
        go_wp2_with (go_at_call 55; (with_reducible refine HC.out.mono ?_); rintro e w' ⟨rfl, rfl⟩)
        go_ret
        rw [E.out]
        exact ⟨rfl, gb_refl _⟩
      | some n =>
        have hn := sumGo_range ds 0 n (by omega) (by omega) hs
        have h3 : decide (n < 0) = false := decide_eq_false (by omega)
        have E0 := Lib.hid (show rightL ds = rise ds ds.length by unfold rightL; rw [hs, decide_eq_true l1, decide_eq_true l2]; simp)
        rw [hs] at CS
        have HC := Lib.hid CS
        subst hv
        clear CS hs hn
        go_enter Tryz.func85, Tryz.ntmps85
        go_wp2_with (go_at_call 55; (with_reducible refine HC.out.mono ?_); rintro e w' ⟨rfl, rfl⟩)
        go_loopw [3] (fun i wr => ∃ k : Nat, 1 ≤ k ∧ k ≤ ds.length ∧ i = .int .i64 k ∧ rise ds k = true ∧ w.grownBy wr none) (fun i _ => ds.length - (intOf i).toNat)
        case atStart => exact ⟨1, by omega, by omega, rfl, by simp [rise], gb_refl _⟩
        case round =>
          obtain ⟨k, hk1, hk, rfl, hri, hg⟩ := hrel
          have Hg := Lib.hid hg; have Hri := Lib.hid hri; clear hg hri
          by_cases hlt : k < ds.length
          · rcases Hrow.out with h0 | ⟨g, o, rfl, hg, hrow⟩
            · omega
            have R := Lib.hid (RowAt.elem (hrow.grown Hg.out (by simp)) (fun d _ => d.cells_length))
            have k1 : ((k - 1 : Nat) : Int) = (k : Int) - 1 := by omega
            have c0 := R.out (k - 1) (by omega) 0 _ rfl
            have c1 := R.out k hlt 0 _ rfl
            rw [Nat.add_zero] at c0 c1
            rw [← keyAt_get (by omega)] at c0
            rw [← keyAt_get hlt] at c1
            have ER := Lib.hid (show rise ds (k + 1) = decide (keyAt ds (k - 1) < keyAt ds k) by
              rw [show rise ds (k + 1) = (rise ds k && (k == 0 || decide (keyAt ds (k - 1) < keyAt ds k))) from rfl, Hri.out]
              have : (k == 0) = false := by simp; omega
              rw [this]; simp)
            obtain ⟨p, hp⟩ : ∃ p, keyAt ds (k - 1) = p := ⟨_, rfl⟩
            obtain ⟨q, hq⟩ : ∃ q, keyAt ds k = q := ⟨_, rfl⟩
            rw [hp] at c0; rw [hq] at c1; rw [hp, hq] at ER
            clear hrow hg hp hq
            cases hb : decide (q ≤ p) with
            | true =>
              have E := Lib.hid (show rightL ds = false by
                have := of_decide_eq_true hb
                rw [E0.out]; exact rise_false (by rw [ER.out]; exact decide_eq_false (by omega)) _ hlt)
              go_wp2_with fail
              go_quiet (fail)
              go_wp2_with fail
              go_ret
              rw [E.out]
              exact ⟨rfl, Lib.grownBy_trans Hg.out (dr_grown _ _)⟩
            | false =>
              have E := Lib.hid (show rise ds (k + 1) = true by
                have := of_decide_eq_false hb
                rw [ER.out]; exact decide_eq_true (by omega))
              go_wp2_with fail
              go_quiet (fail)
              go_wp2_with fail
              exact ⟨⟨k + 1, by omega, by omega, by go_num, E.out, Lib.grownBy_trans Hg.out (dr_grown _ _)⟩, by simp [intOf]; omega⟩
          · obtain rfl : k = ds.length := by omega
            go_wp2_with fail
            go_ret
            rw [E0.out, Hri.out]
            exact ⟨rfl, Hg.out⟩
open Go.RowKit Go.Shelf

def cloneRen : Go.Shelf.Ren := ⟨fun | 41 => 71 | n => n, fun | 4 => 4 | 3 => 3 | 22 => 29 | 23 => 131 | n => n, fun | n => n⟩
theorem cloneLays : SlLaysE0.n41 Tryz.prog cloneRen := {
  mixed := by kernel_rfl
  f41 := ⟨Tryz.f71.name, by decide +kernel, Tryz.func71.trans (congrArg some (by kernel_rfl))⟩
  t4 := Tryz.underlying4
  a4 := Tryz.isAgg4
  z4 := Tryz.sizeOf4
  v4 := Tryz.zeroValue4
  t22 := Tryz.underlying29
  a22 := Tryz.isAgg29
  z22 := Tryz.sizeOf29
  v22 := Tryz.zeroValue29 }
noncomputable def valI : TypeInfo := (Tryz.prog.info? 131).get (by kernel_rfl)
theorem setCells_one (ds : List ValD) : ∀ u ∈ setCells ds, u.oneCell' = true := by
  intro u hu
  obtain ⟨d, _, hd⟩ := List.mem_flatMap.1 hu
  exact ValD_one d u hd
theorem cloneV_ok {B : Nat} (v : Value) (ds : List ValD) (w : World) (hr : RdS B w v ds.length 2 (setCells ds)) (hn : 0 < ds.length) (hbig : ds.length * 16 ≤ 140737488355328) :
    Calls Tryz.prog 71 #[v] w fun e w' => ∃ v', e = .returned v' ∧ RdS w'.heap.size w' v' ds.length 2 (setCells ds) ∧ (∀ g, v'.ownBlock = some g → w.heap.size ≤ g) ∧ v'.ownBlock ≠ none ∧ Below w.heap.size w w' := by
  obtain ⟨g, o, c, rfl, h1, h2, hg, hrow⟩ := hr.at_ hn
  refine (AnyE.slices_Clone cloneLays valI (.agg #[.int .u64 0, .int .i64 0]) 2 16 (by kernel_rfl) (by kernel_rfl) (by kernel_rfl) (by kernel_rfl) rfl (by decide) Tryz.sizeOf131 g o ds.length c (setCells ds) w (flat_length _ 2 ds fun d _ => d.cells_length) (Nat.le_trans h1 h2) hbig (fun j u hj => hrow j u hj) (setCells_one ds)).mono ?_
  rintro e w' ⟨v', rfl, ho, hnil, hb⟩
  refine ⟨v', rfl, ?_, fun g hg => (ho.lt g hg).1, ?_, hb⟩
  · obtain ⟨hl, ⟨rfl, _⟩ | ⟨g', cap, cur, rfl, hB, hh, hc1, hc2, hsz, htk⟩⟩ := id ho
    · exact absurd rfl hnil
    · refine ⟨some ⟨g', 0, none⟩, cap, rfl, hc1, hc2, flat_length _ 2 ds fun d _ => d.cells_length, Or.inr ⟨g', 0, rfl, (Array.getElem?_eq_some_iff.1 hh).1, ?_⟩⟩
      intro j u hj
      rw [Nat.zero_add, Lib.cell_of_heap hh, ← Array.getElem?_toList]
      have hlt : j < ds.length * 2 := by have := (List.getElem?_eq_some_iff.1 hj).1; rwa [hl] at this
      rw [← htk, List.getElem?_take_of_lt (by omega)] at hj
      exact hj
  · rcases ho.2 with ⟨rfl, _⟩ | ⟨g', cap, cur, rfl, _⟩
    · exact absurd rfl hnil
    · simp [Value.ownBlock]

theorem sumGo_sum : ∀ (ds : List ValD) (n m : Int), n ≤ 1125899906842624 → sumGo n ds = some m → (∀ d ∈ ds, 1 ≤ d.power) ∧ m = n + (ds.map (·.power)).sum ∧ m ≤ 1125899906842624
  | [], n, m, h0, h => by simp only [sumGo, Option.some.injEq] at h; subst h; simp; exact h0
  | d :: l, n, m, h0, h => by
    unfold sumGo at h
    split at h
    · cases h
    split at h
    · cases h
    obtain ⟨h1, h2, h3⟩ := sumGo_sum l _ m (by omega) h
    refine ⟨fun x hx => ?_, by rw [h2, List.map_cons, List.sum_cons]; omega, h3⟩
    rcases List.mem_cons.1 hx with rfl | hx
    · omega
    · exact h1 x hx
theorem right_sum {ds : List ValD} (h : rightL ds = true) : (∀ d ∈ ds, 1 ≤ d.power) ∧ totalL ds = (ds.map (·.power)).sum ∧ totalL ds ≤ 1125899906842624 := by
  have h0 := h
  unfold rightL at h
  simp only [Bool.and_eq_true] at h
  obtain ⟨m, hm⟩ := Option.isSome_iff_exists.1 h.1.1.1
  have hm' := hm
  unfold sumL at hm
  obtain ⟨h1, h2, h3⟩ := sumGo_sum ds 0 m (by decide) hm
  have e : totalL ds = m := by unfold totalL; rw [if_pos h0, hm']; rfl
  exact ⟨h1, by rw [e, h2]; omega, by rw [e]; exact h3⟩

end Go.Proofs.YtbhghlendbcejaaGreatDoor
