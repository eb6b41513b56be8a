/- Walks: verify.Right, verify.Expired. Walks: nuncioref01: a number's parts; whether it is none; which of two comes first; whether it may be a level. Walks: nuncioref01.Exceeds; nuncioref15.Right, Expired, finite. Walks: nuncioref15.Right, Expired, finite. -/
import Derived.Test.YtbhghlendbcejaaGreatDoorEx
import Derived.Test.YtbhghlendbcejaaGreatDoorFx
namespace Go.Proofs.YtbhghlendbcejaaGreatDoor
open Go.RowKit
set_option maxRecDepth 100000

set_option maxHeartbeats 2000000 in
theorem optRight_ok (o : OptD) (w : World) : Calls Tryz.prog 38 #[.agg o.cells.toArray] w fun e w' => e = .returned (.bool (rightO o)) ∧ w.grownBy w' none := by
  obtain ⟨x, y, z⟩ := o
  unfold rightO OptD.cells
  dsimp only
  obtain ⟨b1, h1⟩ : ∃ b, geF x 4599676419421066581 = b := ⟨_, rfl⟩
  obtain ⟨b2, h2⟩ : ∃ b, leF x 4607182418800017408 = b := ⟨_, rfl⟩
  obtain ⟨b3, h3⟩ : ∃ b, gtF y 0 = b := ⟨_, rfl⟩
  obtain ⟨b4, h4⟩ : ∃ b, geF z 0 = b := ⟨_, rfl⟩
  rw [h1, h2, h3, h4]
  unfold geF leF gtF ordF at *
  cases b1
  · clear h2 h3 h4
    go_enter Tryz.func38, Tryz.ntmps38
    go_wp2_with fail
    go_ret
    exact ⟨rfl, World.grownBy_alloc _ _ none⟩
  cases b2
  · clear h3 h4
    go_enter Tryz.func38, Tryz.ntmps38
    go_wp2_with fail
    go_ret
    exact ⟨rfl, World.grownBy_alloc _ _ none⟩
  cases b3
  · clear h4
    go_enter Tryz.func38, Tryz.ntmps38
    go_wp2_with fail
    go_ret
    exact ⟨rfl, World.grownBy_alloc _ _ none⟩
  go_enter Tryz.func38, Tryz.ntmps38
  go_wp2_with fail
  go_ret
  exact ⟨rfl, World.grownBy_alloc _ _ none⟩

set_option maxHeartbeats 2000000 in
theorem expired_ok (t : Int) (now : Nat) (o : OptD) (w : World) (hn : now < 18446744073709551616) (ht : i64R t) : Calls Tryz.prog 42 #[.int .i64 t, .float .f64 now, .agg o.cells.toArray] w fun e w' => e = .returned (.bool (expF t now o)) ∧ w.grownBy w' none := by
  obtain ⟨x, y, z⟩ := o
  unfold expF OptD.cells
  dsimp only
  have CN := isNaN_ok now
  obtain ⟨b1, h1⟩ : ∃ b, nanF now = b := ⟨_, rfl⟩
  rw [h1] at CN ⊢
  have CN := Lib.hid CN
  cases b1
  · have nn : ¬ nanW now := fun h => by rw [(nanF_iff hn).2 h] at h1; cases h1
    obtain ⟨z, hz⟩ := sub_ex hn nn (i2f_fin t ⟨ht.1, by have := ht.2; omega⟩).1
    have hs : subF now (i2f t) = z := by unfold subF i2f; rw [hz]; rfl
    rw [hs]
    have hsub := fun w => run_float_arith (P := Tryz.prog) w .sub 41 .f64 now (floatOfInt .f64 t) z hz
    obtain ⟨b2, h2⟩ : ∃ b, ltF z y = b := ⟨_, rfl⟩
    rw [h2]
    unfold ltF ordF at h2
    clear h1 nn hs hz ht hn
    go_enter Tryz.func42, Tryz.ntmps42
    go_wp2_with fail
    refine (CN.out _).mono ?_
    rintro e w' ⟨rfl, rfl⟩
    go_wp2_with fail
    go_ret
    exact ⟨rfl, World.grownBy_alloc _ _ none⟩
  · clear h1
    go_enter Tryz.func42, Tryz.ntmps42
    go_wp2_with fail
    refine (CN.out _).mono ?_
    rintro e w' ⟨rfl, rfl⟩
    go_wp2_with fail
    go_ret
    exact ⟨rfl, World.grownBy_alloc _ _ none⟩

def fE (x : Nat) : Nat := x / 4503599627370496 % 2048
def fR (x : Nat) : Nat := x % 4503599627370496
def fM (x : Nat) : Nat := if fE x = 2047 ∨ fE x = 0 then fR x else fR x + 4503599627370496
def fP (x : Nat) : Int := if fE x = 2047 then 2047 else if fE x = 0 then -1074 else (fE x : Int) - 1075
set_option maxHeartbeats 2000000 in
theorem parts_ok (x : Nat) (w : World) (hx : x < 18446744073709551616) : Calls Tryz.prog 60 #[.float .f64 x] w fun e w' => e = .returned (.tuple #[.bool (decide (9223372036854775808 ≤ x)), .int .u64 (fM x : Nat), .int .i64 (fP x)]) ∧ w' = w := by
  have b1 := bits_run x
  have f1 := fld_any hx
  obtain ⟨E, hE⟩ : ∃ E, fE x = E := ⟨_, rfl⟩
  obtain ⟨r, hr⟩ : ∃ r, fR x = r := ⟨_, rfl⟩
  have f1 : Go.bits .and .u64 ((x / 4503599627370496 : Nat) : Int) 2047 = (E : Int) := by rw [f1, ← hE]; rfl
  obtain ⟨S, hS⟩ : ∃ S, x / 4503599627370496 = S := ⟨_, rfl⟩
  obtain ⟨g, hg⟩ : ∃ g, x / 9223372036854775808 = g := ⟨_, rfl⟩
  rw [hS] at f1
  have hs : (x : Int) / 4503599627370496 = (S : Int) := by omega
  have hrr : (x : Int) % 4503599627370496 = (r : Int) := by unfold fR at hr; omega
  have hgg : (x : Int) / 9223372036854775808 = (g : Int) := by omega
  have hB : ((g : Int) == 1) = decide (9223372036854775808 ≤ x) := by
    rw [Bool.eq_iff_iff]; simp; omega
  obtain ⟨B, hB2⟩ : ∃ B, decide (9223372036854775808 ≤ x) = B := ⟨_, rfl⟩
  rw [hB2] at hB ⊢
  have hEb : E < 2048 := by rw [← hE]; unfold fE; omega
  have hrb : r < 4503599627370496 := by rw [← hr]; unfold fR; omega
  have hm : fM x = if E = 2047 ∨ E = 0 then r else r + 4503599627370496 := by unfold fM; rw [hE, hr]
  have hp : fP x = if E = 2047 then 2047 else if E = 0 then -1074 else (E : Int) - 1075 := by unfold fP; rw [hE]
  rw [hm, hp]
  clear hm hp hB2 hS hg hx hE hr
  by_cases e1 : E = 2047
  · subst e1
    rw [if_pos (.inl rfl), if_pos rfl]
    have f1 : Go.bits .and .u64 (S : Int) 2047 = 2047 := f1
    go_enter Tryz.func60, Tryz.ntmps60
    go_wp2_with fail
    go_ret3
    refine ⟨?_, rfl⟩
    rw [← hrr]; rfl
  by_cases e2 : E = 0
  · subst e2
    rw [if_pos (.inr rfl), if_neg (by decide), if_pos rfl]
    have f1 : Go.bits .and .u64 (S : Int) 2047 = 0 := f1
    go_enter Tryz.func60, Tryz.ntmps60
    go_wp2_with fail
    go_ret3
    refine ⟨?_, rfl⟩
    rw [← hrr]; rfl
  · rw [if_neg (by omega), if_neg e1, if_neg e2]
    have t1 : ((E : Int) == 2047) = false := by rw [beq_eq_false_iff_ne]; omega
    have t2 : ((E : Int) == 0) = false := by rw [beq_eq_false_iff_ne]; omega
    obtain ⟨d, hd⟩ : ∃ d : Int, (E : Int) - 1075 = d := ⟨_, rfl⟩
    have hw := IntWalk.i64_in ((E : Int) - 1075) (by omega)
    rw [hd] at hw
    obtain ⟨m, hm⟩ : ∃ m, r + 4503599627370496 = m := ⟨_, rfl⟩
    have hm2 : (r : Int) + 4503599627370496 = (m : Int) := by omega
    rw [hd, hm]
    clear e1 e2 hm
    go_enter Tryz.func60, Tryz.ntmps60
    go_wp2_with fail
    go_ret3
    refine ⟨?_, rfl⟩
    rw [← hm2, ← hrr]; rfl
theorem nanE_eq {x : Nat} (hx : x < 18446744073709551616) : nanF x = nanE x := by
  rw [Bool.eq_iff_iff, nanF_iff hx, nanE_iff hx]
set_option maxHeartbeats 2000000 in
theorem RNan_ok (x : Nat) (w : World) (hx : x < 18446744073709551616) : Calls Tryz.prog 35 #[.float .f64 x] w fun e w' => e = .returned (.bool (nanF x)) ∧ w' = w := by
  rw [nanE_eq hx]
  have C := parts_ok x w hx
  obtain ⟨B, hB⟩ : ∃ B, decide (9223372036854775808 ≤ x) = B := ⟨_, rfl⟩
  rw [hB] at C
  by_cases e1 : fE x = 2047
  · have hm : fM x = fR x := by unfold fM; rw [if_pos (.inl e1)]
    have hp : fP x = 2047 := by unfold fP; rw [if_pos e1]
    rw [hm, hp] at C
    obtain ⟨r, hr⟩ : ∃ r, fR x = r := ⟨_, rfl⟩
    have hn : nanE x = ((r : Int) != 0) := by
      unfold nanE
      rw [decide_eq_true (show x / 4503599627370496 % 2048 = 2047 from e1), Bool.true_and, ← hr, Bool.eq_iff_iff]
      unfold fR
      simp
      omega
    rw [hr] at C
    rw [hn]
    have C := Lib.hid C
    clear hB e1 hm hp hr hn
    go_enter Tryz.func35, Tryz.ntmps35
    go_wp2_with fail
    refine C.out.mono ?_
    rintro e w' ⟨rfl, rfl⟩
    go_wp2_with fail
    go_ret
    exact ⟨rfl, rfl⟩
  · have hn : nanE x = false := by
      unfold nanE
      rw [decide_eq_false (show ¬ x / 4503599627370496 % 2048 = 2047 from e1), Bool.false_and]
    rw [hn]
    obtain ⟨p, hp⟩ : ∃ p, fP x = p := ⟨_, rfl⟩
    have t1 : (p == 2047) = false := by
      rw [beq_eq_false_iff_ne, ← hp]
      unfold fP
      rw [if_neg e1]
      have : fE x < 2048 := Nat.mod_lt _ (by decide)
      split <;> omega
    rw [hp] at C
    have C := Lib.hid C
    clear hB e1 hp hn
    go_enter Tryz.func35, Tryz.ntmps35
    go_wp2_with fail
    refine C.out.mono ?_
    rintro e w' ⟨rfl, rfl⟩
    go_wp2_with fail
    go_ret
    exact ⟨rfl, rfl⟩
def plcR (x : Nat) : Int := if nanF x = true then 9223372036854775807 else plcF x
set_option maxHeartbeats 2000000 in
theorem place_ok (x : Nat) (w : World) (hx : x < 18446744073709551616) : Calls Tryz.prog 153 #[.float .f64 x] w fun e w' => e = .returned (.int .i64 (plcR x)) ∧ w' = w := by
  have b1 := bits_run x
  have C := RNan_ok x w hx
  unfold plcR
  obtain ⟨q, hq⟩ : ∃ q, nanF x = q := ⟨_, rfl⟩
  rw [hq] at C ⊢
  have C := Lib.hid C
  clear hq
  cases q
  · rw [if_neg (by decide)]
    unfold plcF
    by_cases h : x < 9223372036854775808
    · rw [if_pos h]
      have hg : (x : Int) / 9223372036854775808 = 0 := by omega
      clear hx
      have hx : x ≤ 9223372036854775807 := by omega
      clear h
      go_enter Tryz.func153, Tryz.ntmps153
      go_wp2_with fail
      refine C.out.mono ?_
      rintro e w' ⟨rfl, rfl⟩
      go_wp2_with fail
      go_ret
      exact ⟨rfl, rfl⟩
    · rw [if_neg h]
      have hg : (x : Int) / 9223372036854775808 = 1 := by omega
      obtain ⟨y, hy⟩ : ∃ y, x % 9223372036854775808 = y := ⟨_, rfl⟩
      have hyy : (x : Int) % 9223372036854775808 = (y : Int) := by omega
      have hyb : y ≤ 9223372036854775807 := by omega
      rw [hy]
      have hw := IntWalk.i64_in (-1 - (y : Int)) (by omega)
      obtain ⟨z, hz⟩ : ∃ z : Int, -1 - (y : Int) = z := ⟨_, rfl⟩
      rw [hz] at hw ⊢
      clear h hy hx
      go_enter Tryz.func153, Tryz.ntmps153
      go_wp2_with fail
      refine C.out.mono ?_
      rintro e w' ⟨rfl, rfl⟩
      go_wp2_with fail
      go_ret
      exact ⟨rfl, rfl⟩
  · rw [if_pos rfl]
    go_enter Tryz.func153, Tryz.ntmps153
    go_wp2_with fail
    refine C.out.mono ?_
    rintro e w' ⟨rfl, rfl⟩
    go_wp2_with fail
    go_ret
    exact ⟨rfl, rfl⟩
def ordR (x y : Nat) : Int := if plcR x < plcR y then -1 else if plcR y < plcR x then 1 else 0
set_option maxHeartbeats 2000000 in
theorem ROrder_ok (x y : Nat) (w : World) (hx : x < 18446744073709551616) (hy : y < 18446744073709551616) : Calls Tryz.prog 116 #[.float .f64 x, .float .f64 y] w fun e w' => e = .returned (.int .i64 (ordR x y)) ∧ w' = w := by
  have C := place_ok x w hx; have D := place_ok y w hy
  unfold ordR
  obtain ⟨a, ha⟩ : ∃ a, plcR x = a := ⟨_, rfl⟩
  obtain ⟨b, hb⟩ : ∃ b, plcR y = b := ⟨_, rfl⟩
  rw [ha] at C ⊢; rw [hb] at D ⊢
  have C := Lib.hid C; have D := Lib.hid D
  clear ha hb hx hy
  by_cases h1 : a < b
  · rw [if_pos h1]
    go_enter Tryz.func116, Tryz.ntmps116
    go_wp2_with fail
    refine C.out.mono ?_
    rintro e w' ⟨rfl, rfl⟩
    go_wp2_with fail
    refine D.out.mono ?_
    rintro e w' ⟨rfl, rfl⟩
    go_wp2_with fail
    go_ret
    exact ⟨rfl, rfl⟩
  rw [if_neg h1]
  by_cases h2 : b < a
  · rw [if_pos h2]
    go_enter Tryz.func116, Tryz.ntmps116
    go_wp2_with fail
    refine C.out.mono ?_
    rintro e w' ⟨rfl, rfl⟩
    go_wp2_with fail
    refine D.out.mono ?_
    rintro e w' ⟨rfl, rfl⟩
    go_wp2_with fail
    go_ret
    exact ⟨rfl, rfl⟩
  · rw [if_neg h2]
    go_enter Tryz.func116, Tryz.ntmps116
    go_wp2_with fail
    refine C.out.mono ?_
    rintro e w' ⟨rfl, rfl⟩
    go_wp2_with fail
    refine D.out.mono ?_
    rintro e w' ⟨rfl, rfl⟩
    go_wp2_with fail
    go_ret
    exact ⟨rfl, rfl⟩
theorem plc_0 : plcR 0 = 0 := by decide +kernel
theorem plc_1 : plcR 4607182418800017408 = 4607182418800017408 := by decide +kernel
theorem lvl_nan {x : Nat} (hx : x < 18446744073709551616) (h : nanF x = true) : lvlB x = false := by
  have := (nanF_iff hx).1 h
  unfold nanW at this
  unfold lvlB
  rw [decide_eq_false]
  omega
theorem lvl_num {x : Nat} (hx : x < 18446744073709551616) (h : nanF x = false) : lvlB x = (decide (0 < ordR x 0) && decide (ordR x 4607182418800017408 ≤ 0)) := by
  unfold lvlB ordR
  rw [plc_0, plc_1]
  have : plcR x = plcF x := by unfold plcR; rw [h]; simp
  rw [this]
  unfold plcF
  rw [Bool.eq_iff_iff]
  simp only [Bool.and_eq_true, decide_eq_true_eq]
  split <;> split <;> split <;> (try split) <;> (try split) <;> omega
set_option maxHeartbeats 2000000 in
theorem RLevel_ok (x : Nat) (w : World) (hx : x < 18446744073709551616) : Calls Tryz.prog 79 #[.float .f64 x] w fun e w' => e = .returned (.bool (lvlB x)) ∧ w' = w := by
  have C := RNan_ok x w hx; have D := ROrder_ok x 0 w hx (by decide); have F := ROrder_ok x 4607182418800017408 w hx (by decide)
  have h1 := @lvl_nan x hx; have h2 := @lvl_num x hx
  obtain ⟨q, hq⟩ : ∃ q, nanF x = q := ⟨_, rfl⟩
  rw [hq] at C h1 h2
  cases q
  · have h2 := h2 rfl
    rw [h2]
    obtain ⟨a, ha⟩ : ∃ a, ordR x 0 = a := ⟨_, rfl⟩
    obtain ⟨b, hb⟩ : ∃ b, ordR x 4607182418800017408 = b := ⟨_, rfl⟩
    rw [ha] at D ⊢; rw [hb] at F ⊢
    have C := Lib.hid C; have D := Lib.hid D; have F := Lib.hid F
    clear h1 h2 hq ha hb hx
    by_cases h3 : 0 < a
    · have d3 : decide (0 < a) = true := decide_eq_true h3
      rw [d3, Bool.true_and]
      go_enter Tryz.func79, Tryz.ntmps79
      go_wp2_with fail
      refine C.out.mono ?_
      rintro e w' ⟨rfl, rfl⟩
      go_wp2_with fail
      refine D.out.mono ?_
      rintro e w' ⟨rfl, rfl⟩
      go_wp2_with fail
      refine F.out.mono ?_
      rintro e w' ⟨rfl, rfl⟩
      go_wp2_with fail
      go_ret
      exact ⟨rfl, rfl⟩
    · have d3 : decide (0 < a) = false := decide_eq_false h3
      rw [d3, Bool.false_and]
      clear h3
      go_enter Tryz.func79, Tryz.ntmps79
      go_wp2_with fail
      refine C.out.mono ?_
      rintro e w' ⟨rfl, rfl⟩
      go_wp2_with fail
      refine D.out.mono ?_
      rintro e w' ⟨rfl, rfl⟩
      go_wp2_with fail
      go_ret
      exact ⟨rfl, rfl⟩
  · rw [h1 rfl]
    have C := Lib.hid C
    clear h1 h2 hq D F
    go_enter Tryz.func79, Tryz.ntmps79
    go_wp2_with fail
    refine C.out.mono ?_
    rintro e w' ⟨rfl, rfl⟩
    go_wp2_with fail
    go_ret
    exact ⟨rfl, rfl⟩

/-- a product by its figures to the base 2^32 -/
theorem words_of {a b c N : Nat} (hc : c < 18446744073709551616) (hN : N = a * 18446744073709551616 + b * 4294967296 + c) :
    N % 18446744073709551616 = (c + b * 4294967296 % 18446744073709551616) % 18446744073709551616 ∧
    N / 18446744073709551616 = a + b / 4294967296 + (if (c + b * 4294967296 % 18446744073709551616) % 18446744073709551616 < c then 1 else 0) := by
  subst hN
  split <;> omega
def excR (p t : Int) (x : Nat) : Bool := if p < 0 ∨ t < 0 ∨ 1125899906842624 < t then false else excL p t x
def excE (p t : Int) : Int := if p < 0 ∨ t < 0 ∨ 1125899906842624 < t then 1 else 0
theorem lvl_of {x : Nat} (h1 : 4599676419421066581 ≤ x) (h2 : x ≤ 4607182418800017408) : lvlB x = true := by
  unfold lvlB; rw [decide_eq_true_eq]; omega
set_option maxHeartbeats 1000000 in
theorem RExc_no (p t : Int) (x : Nat) (w : World) (h : p < 0 ∨ t < 0 ∨ 1125899906842624 < t) (h1 : 4599676419421066581 ≤ x) (h2 : x ≤ 4607182418800017408) :
    Calls Tryz.prog 54 #[.int .i64 p, .int .i64 t, .float .f64 x] w fun e w' => e = .returned (.tuple #[.bool false, .int .i64 1]) ∧ w = w' := by
  have CR := RLevel_ok x w (by omega)
  rw [lvl_of h1 h2] at CR
  have CR := Lib.hid CR
  clear h1 h2
  by_cases c1 : p < 0
  · clear h
    go_enter Tryz.func54, Tryz.ntmps54
    go_wp2_with fail
    refine CR.out.mono ?_
    rintro e w' ⟨rfl, rfl⟩
    go_wp2_with fail
    go_ret2
    exact ⟨rfl, rfl⟩
  by_cases c2 : t < 0
  · clear h
    have c1 : ¬ p < 0 := c1
    go_enter Tryz.func54, Tryz.ntmps54
    go_wp2_with fail
    refine CR.out.mono ?_
    rintro e w' ⟨rfl, rfl⟩
    go_wp2_with fail
    go_ret2
    exact ⟨rfl, rfl⟩
  have c3 : 1125899906842624 < t := by omega
  clear h
  go_enter Tryz.func54, Tryz.ntmps54
  go_wp2_with fail
  refine CR.out.mono ?_
  rintro e w' ⟨rfl, rfl⟩
  go_wp2_with fail
  go_ret2
  exact ⟨rfl, rfl⟩

set_option maxHeartbeats 16000000 in
theorem RExc_yes (P T x : Nat) (w : World) (hP : P < 9223372036854775808) (hT : T ≤ 1125899906842624) (h1 : 4599676419421066581 ≤ x) (h2 : x ≤ 4607182418800017408) :
    Calls Tryz.prog 54 #[.int .i64 P, .int .i64 T, .float .f64 x] w fun e w' => e = .returned (.tuple #[.bool (excL P T x), .int .i64 0]) ∧ w = w' := by
  have CR := RLevel_ok x w (by omega)
  rw [lvl_of h1 h2] at CR
  obtain ⟨E, hE⟩ : ∃ E, x / 4503599627370496 = E := ⟨_, rfl⟩
  obtain ⟨r, hr⟩ : ∃ r, x % 4503599627370496 = r := ⟨_, rfl⟩
  have CP := parts_ok x w (by omega)
  have eE : fE x = E := by unfold fE; omega
  have eM : fM x = r + 4503599627370496 := by unfold fM fR; rw [eE, if_neg (by omega), hr]
  have eP : fP x = (E : Int) - 1075 := by unfold fP; rw [eE, if_neg (by omega), if_neg (by omega)]
  rw [eM, eP] at CP
  have hx := exc_wordsE (P := P) (T := T) hE hr
  have hB : decide (9223372036854775808 ≤ x) = false := decide_eq_false (by omega)
  rw [hB] at CP
  obtain ⟨s, hs⟩ : ∃ s, 1075 - E = s := ⟨_, rfl⟩
  rw [hs] at hx
  have es : (E : Int) - 1075 = -(s : Int) := by omega
  rw [es] at CP
  obtain ⟨m, hm⟩ : ∃ m, r + 4503599627370496 = m := ⟨_, rfl⟩
  rw [hm] at CP
  rw [Nat.add_comm, hm] at hx
  have hmb : m < 9007199254740992 := by omega
  have hs3 : s = 52 ∨ s = 53 ∨ s = 54 := by omega
  have CR := Lib.hid CR
  clear hB es eM eP eE hE hr h1 h2 hm
  -- the figures
  obtain ⟨T1, hT1⟩ : ∃ z, T / 4294967296 = z := ⟨_, rfl⟩
  obtain ⟨T0, hT0⟩ : ∃ z, T % 4294967296 = z := ⟨_, rfl⟩
  obtain ⟨M1, hM1⟩ : ∃ z, m / 4294967296 = z := ⟨_, rfl⟩
  obtain ⟨M0, hM0⟩ : ∃ z, m % 4294967296 = z := ⟨_, rfl⟩
  have i1 : (T : Int) / 4294967296 = (T1 : Int) := by omega
  have i2 : (T : Int) % 4294967296 = (T0 : Int) := by omega
  have i3 : (m : Int) / 4294967296 = (M1 : Int) := by omega
  have i4 : (m : Int) % 4294967296 = (M0 : Int) := by omega
  have eT : T = T1 * 4294967296 + T0 := by omega
  have eM : m = M1 * 4294967296 + M0 := by omega
  have bT1 : T1 ≤ 262144 := by omega
  have bT0 : T0 ≤ 4294967295 := by omega
  have bM1 : M1 ≤ 2097151 := by omega
  have bM0 : M0 ≤ 4294967295 := by omega
  have p1 : T1 * M1 ≤ 262144 * 2097151 := Nat.mul_le_mul bT1 bM1
  have p2 : T1 * M0 ≤ 262144 * 4294967295 := Nat.mul_le_mul bT1 bM0
  have p3 : T0 * M1 ≤ 4294967295 * 2097151 := Nat.mul_le_mul bT0 bM1
  have p4 : T0 * M0 ≤ 4294967295 * 4294967295 := Nat.mul_le_mul bT0 bM0
  have hN : T * m = (T1 * M1) * 18446744073709551616 + (T1 * M0 + T0 * M1) * 4294967296 + T0 * M0 := by
    have q1 : T1 * 4294967296 * (M1 * 4294967296) = (T1 * M1) * 18446744073709551616 := by rw [Nat.mul_mul_mul_comm]
    have q2 : T1 * 4294967296 * M0 = T1 * M0 * 4294967296 := by rw [Nat.mul_right_comm]
    have q3 : T0 * (M1 * 4294967296) = T0 * M1 * 4294967296 := by rw [Nat.mul_assoc]
    rw [eT, eM, Nat.add_mul, Nat.mul_add, Nat.mul_add, q1, q2, q3]
    omega
  have j1 : (T1 : Int) * (M1 : Int) = ((T1 * M1 : Nat) : Int) := by rw [Int.natCast_mul]
  have j2 : (T1 : Int) * (M0 : Int) = ((T1 * M0 : Nat) : Int) := by rw [Int.natCast_mul]
  have j3 : (T0 : Int) * (M1 : Int) = ((T0 * M1 : Nat) : Int) := by rw [Int.natCast_mul]
  have j4 : (T0 : Int) * (M0 : Int) = ((T0 * M0 : Nat) : Int) := by rw [Int.natCast_mul]
  obtain ⟨a, ha⟩ : ∃ z, T1 * M1 = z := ⟨_, rfl⟩
  obtain ⟨b1, hb1⟩ : ∃ z, T1 * M0 = z := ⟨_, rfl⟩
  obtain ⟨b2, hb2⟩ : ∃ z, T0 * M1 = z := ⟨_, rfl⟩
  obtain ⟨c, hc⟩ : ∃ z, T0 * M0 = z := ⟨_, rfl⟩
  rw [ha] at p1 hN j1; rw [hb1] at p2 hN j2; rw [hb2] at p3 hN j3; rw [hc] at p4 hN j4
  clear ha hb1 hb2 hc hT1 hT0 hM1 hM0 eT eM bT1 bT0 bM1 bM0 hmb
  obtain ⟨b, hb⟩ : ∃ z, b1 + b2 = z := ⟨_, rfl⟩
  have j5 : (b1 : Int) + (b2 : Int) = (b : Int) := by omega
  rw [hb] at hN
  obtain ⟨hlow, hhigh⟩ := words_of (by omega) hN
  obtain ⟨bl, hbl⟩ : ∃ z, b * 4294967296 % 18446744073709551616 = z := ⟨_, rfl⟩
  obtain ⟨bh, hbh⟩ : ∃ z, b / 4294967296 = z := ⟨_, rfl⟩
  rw [hbl] at hlow hhigh
  rw [hbh] at hhigh
  have j6 : IntKind.u64.wrap ((b : Int) * 4294967296) = (bl : Int) := by rw [u64_wrap]; omega
  have j7 : (b : Int) / 4294967296 = (bh : Int) := by omega
  obtain ⟨lo, hlo⟩ : ∃ z, (c + bl) % 18446744073709551616 = z := ⟨_, rfl⟩
  rw [hlo] at hlow hhigh
  have j8 : IntKind.u64.wrap ((c : Int) + (bl : Int)) = (lo : Int) := by rw [u64_wrap]; omega
  obtain ⟨h0, hh0⟩ : ∃ z, a + bh = z := ⟨_, rfl⟩
  rw [hh0] at hhigh
  have j9 : (a : Int) + (bh : Int) = (h0 : Int) := by omega
  have hh0b : h0 ≤ 1000000000000000000 := by omega
  rw [hlow] at hx
  obtain ⟨u1, hu1⟩ : ∃ z, P * 2 ^ s / 18446744073709551616 = z := ⟨_, rfl⟩
  obtain ⟨v1, hv1⟩ : ∃ z, P * 2 ^ s % 18446744073709551616 = z := ⟨_, rfl⟩
  rw [hu1, hv1] at hx
  have k1 : IntKind.u64.wrap ((b1 : Int) + (b2 : Int)) = (b : Int) := by rw [u64_wrap]; omega
  have k2 : IntKind.u64.wrap ((a : Int) + (bh : Int)) = (h0 : Int) := by rw [u64_wrap]; omega
  have CP := Lib.hid CP
  have HX := Lib.hid hx; have HH := Lib.hid hhigh
  have HT := Lib.hid hT
  have hT2 : (T : Int) ≤ 1125899906842624 := by omega
  clear hx hhigh hlow hN hb hbl hbh hlo hh0 hT
  rcases hs3 with rfl | rfl | rfl
  · have u1e : (P : Int) / 4096 = (u1 : Int) := by omega
    have v1e : IntKind.u64.wrap ((P : Int) * 4503599627370496) = (v1 : Int) := by rw [u64_wrap]; omega
    clear hu1 hv1
    by_cases hc : lo < c
    · have hd : decide (lo < c) = true := decide_eq_true hc
      obtain ⟨u2, hu2⟩ : ∃ z, h0 + 1 = z := ⟨_, rfl⟩
      have hh : T * m / 18446744073709551616 = u2 := by rw [HH.out, if_pos hc, hu2]
      have e := HX.out
      rw [hh] at e
      rw [e]
      have u2e : (h0 : Int) + 1 = (u2 : Int) := by omega
      have hub : u2 ≤ 1000000000000000001 := by omega
      clear e hh hu2 hc
      by_cases c1 : u2 < u1
      · rw [if_pos c1]
        have d1 : decide (u2 < u1) = true := decide_eq_true c1
        clear c1
        go_enter Tryz.func54, Tryz.ntmps54
        go_wp2_with fail
        refine CR.out.mono ?_
        rintro e w' ⟨rfl, rfl⟩
        go_wp2_with fail
        refine CP.out.mono ?_
        rintro e w' ⟨rfl, rfl⟩
        go_wp2_with fail
        go_ret2
        exact ⟨rfl, rfl⟩
      rw [if_neg c1]
      have d1 : decide (u2 < u1) = false := decide_eq_false c1
      clear c1
      by_cases c2 : u1 = u2
      · rw [if_pos c2]
        subst c2
        go_enter Tryz.func54, Tryz.ntmps54
        go_wp2_with fail
        refine CR.out.mono ?_
        rintro e w' ⟨rfl, rfl⟩
        go_wp2_with fail
        refine CP.out.mono ?_
        rintro e w' ⟨rfl, rfl⟩
        go_wp2_with fail
        go_ret2
        exact ⟨rfl, rfl⟩
      · rw [if_neg c2]
        have d2 : ((u1 : Int) == (u2 : Int)) = false := by rw [beq_eq_false_iff_ne]; omega
        clear c2
        go_enter Tryz.func54, Tryz.ntmps54
        go_wp2_with fail
        refine CR.out.mono ?_
        rintro e w' ⟨rfl, rfl⟩
        go_wp2_with fail
        refine CP.out.mono ?_
        rintro e w' ⟨rfl, rfl⟩
        go_wp2_with fail
        go_ret2
        exact ⟨rfl, rfl⟩
    · have hd : decide (lo < c) = false := decide_eq_false hc
      obtain ⟨u2, hu2⟩ : ∃ z, h0 + 0 = z := ⟨_, rfl⟩
      have hh : T * m / 18446744073709551616 = u2 := by rw [HH.out, if_neg hc, hu2]
      have e := HX.out
      rw [hh] at e
      rw [e]
      have u2e : (h0 : Int) + 0 = (u2 : Int) := by omega
      have hub : u2 ≤ 1000000000000000001 := by omega
      clear e hh hu2 hc
      obtain rfl : h0 = u2 := by omega
      clear u2e
      by_cases c1 : h0 < u1
      · rw [if_pos c1]
        have d1 : decide (h0 < u1) = true := decide_eq_true c1
        clear c1
        go_enter Tryz.func54, Tryz.ntmps54
        go_wp2_with fail
        refine CR.out.mono ?_
        rintro e w' ⟨rfl, rfl⟩
        go_wp2_with fail
        refine CP.out.mono ?_
        rintro e w' ⟨rfl, rfl⟩
        go_wp2_with fail
        go_ret2
        exact ⟨rfl, rfl⟩
      rw [if_neg c1]
      have d1 : decide (h0 < u1) = false := decide_eq_false c1
      clear c1
      by_cases c2 : u1 = h0
      · rw [if_pos c2]
        subst c2
        go_enter Tryz.func54, Tryz.ntmps54
        go_wp2_with fail
        refine CR.out.mono ?_
        rintro e w' ⟨rfl, rfl⟩
        go_wp2_with fail
        refine CP.out.mono ?_
        rintro e w' ⟨rfl, rfl⟩
        go_wp2_with fail
        go_ret2
        exact ⟨rfl, rfl⟩
      · rw [if_neg c2]
        have d2 : ((u1 : Int) == (h0 : Int)) = false := by rw [beq_eq_false_iff_ne]; omega
        clear c2
        go_enter Tryz.func54, Tryz.ntmps54
        go_wp2_with fail
        refine CR.out.mono ?_
        rintro e w' ⟨rfl, rfl⟩
        go_wp2_with fail
        refine CP.out.mono ?_
        rintro e w' ⟨rfl, rfl⟩
        go_wp2_with fail
        go_ret2
        exact ⟨rfl, rfl⟩
  · have u1e : (P : Int) / 2048 = (u1 : Int) := by omega
    have v1e : IntKind.u64.wrap ((P : Int) * 9007199254740992) = (v1 : Int) := by rw [u64_wrap]; omega
    clear hu1 hv1
    by_cases hc : lo < c
    · have hd : decide (lo < c) = true := decide_eq_true hc
      obtain ⟨u2, hu2⟩ : ∃ z, h0 + 1 = z := ⟨_, rfl⟩
      have hh : T * m / 18446744073709551616 = u2 := by rw [HH.out, if_pos hc, hu2]
      have e := HX.out
      rw [hh] at e
      rw [e]
      have u2e : (h0 : Int) + 1 = (u2 : Int) := by omega
      have hub : u2 ≤ 1000000000000000001 := by omega
      clear e hh hu2 hc
      by_cases c1 : u2 < u1
      · rw [if_pos c1]
        have d1 : decide (u2 < u1) = true := decide_eq_true c1
        clear c1
        go_enter Tryz.func54, Tryz.ntmps54
        go_wp2_with fail
        refine CR.out.mono ?_
        rintro e w' ⟨rfl, rfl⟩
        go_wp2_with fail
        refine CP.out.mono ?_
        rintro e w' ⟨rfl, rfl⟩
        go_wp2_with fail
        go_ret2
        exact ⟨rfl, rfl⟩
      rw [if_neg c1]
      have d1 : decide (u2 < u1) = false := decide_eq_false c1
      clear c1
      by_cases c2 : u1 = u2
      · rw [if_pos c2]
        subst c2
        go_enter Tryz.func54, Tryz.ntmps54
        go_wp2_with fail
        refine CR.out.mono ?_
        rintro e w' ⟨rfl, rfl⟩
        go_wp2_with fail
        refine CP.out.mono ?_
        rintro e w' ⟨rfl, rfl⟩
        go_wp2_with fail
        go_ret2
        exact ⟨rfl, rfl⟩
      · rw [if_neg c2]
        have d2 : ((u1 : Int) == (u2 : Int)) = false := by rw [beq_eq_false_iff_ne]; omega
        clear c2
        go_enter Tryz.func54, Tryz.ntmps54
        go_wp2_with fail
        refine CR.out.mono ?_
        rintro e w' ⟨rfl, rfl⟩
        go_wp2_with fail
        refine CP.out.mono ?_
        rintro e w' ⟨rfl, rfl⟩
        go_wp2_with fail
        go_ret2
        exact ⟨rfl, rfl⟩
    · have hd : decide (lo < c) = false := decide_eq_false hc
      obtain ⟨u2, hu2⟩ : ∃ z, h0 + 0 = z := ⟨_, rfl⟩
      have hh : T * m / 18446744073709551616 = u2 := by rw [HH.out, if_neg hc, hu2]
      have e := HX.out
      rw [hh] at e
      rw [e]
      have u2e : (h0 : Int) + 0 = (u2 : Int) := by omega
      have hub : u2 ≤ 1000000000000000001 := by omega
      clear e hh hu2 hc
      obtain rfl : h0 = u2 := by omega
      clear u2e
      by_cases c1 : h0 < u1
      · rw [if_pos c1]
        have d1 : decide (h0 < u1) = true := decide_eq_true c1
        clear c1
        go_enter Tryz.func54, Tryz.ntmps54
        go_wp2_with fail
        refine CR.out.mono ?_
        rintro e w' ⟨rfl, rfl⟩
        go_wp2_with fail
        refine CP.out.mono ?_
        rintro e w' ⟨rfl, rfl⟩
        go_wp2_with fail
        go_ret2
        exact ⟨rfl, rfl⟩
      rw [if_neg c1]
      have d1 : decide (h0 < u1) = false := decide_eq_false c1
      clear c1
      by_cases c2 : u1 = h0
      · rw [if_pos c2]
        subst c2
        go_enter Tryz.func54, Tryz.ntmps54
        go_wp2_with fail
        refine CR.out.mono ?_
        rintro e w' ⟨rfl, rfl⟩
        go_wp2_with fail
        refine CP.out.mono ?_
        rintro e w' ⟨rfl, rfl⟩
        go_wp2_with fail
        go_ret2
        exact ⟨rfl, rfl⟩
      · rw [if_neg c2]
        have d2 : ((u1 : Int) == (h0 : Int)) = false := by rw [beq_eq_false_iff_ne]; omega
        clear c2
        go_enter Tryz.func54, Tryz.ntmps54
        go_wp2_with fail
        refine CR.out.mono ?_
        rintro e w' ⟨rfl, rfl⟩
        go_wp2_with fail
        refine CP.out.mono ?_
        rintro e w' ⟨rfl, rfl⟩
        go_wp2_with fail
        go_ret2
        exact ⟨rfl, rfl⟩
  · have u1e : (P : Int) / 1024 = (u1 : Int) := by omega
    have v1e : IntKind.u64.wrap ((P : Int) * 18014398509481984) = (v1 : Int) := by rw [u64_wrap]; omega
    clear hu1 hv1
    by_cases hc : lo < c
    · have hd : decide (lo < c) = true := decide_eq_true hc
      obtain ⟨u2, hu2⟩ : ∃ z, h0 + 1 = z := ⟨_, rfl⟩
      have hh : T * m / 18446744073709551616 = u2 := by rw [HH.out, if_pos hc, hu2]
      have e := HX.out
      rw [hh] at e
      rw [e]
      have u2e : (h0 : Int) + 1 = (u2 : Int) := by omega
      have hub : u2 ≤ 1000000000000000001 := by omega
      clear e hh hu2 hc
      by_cases c1 : u2 < u1
      · rw [if_pos c1]
        have d1 : decide (u2 < u1) = true := decide_eq_true c1
        clear c1
        go_enter Tryz.func54, Tryz.ntmps54
        go_wp2_with fail
        refine CR.out.mono ?_
        rintro e w' ⟨rfl, rfl⟩
        go_wp2_with fail
        refine CP.out.mono ?_
        rintro e w' ⟨rfl, rfl⟩
        go_wp2_with fail
        go_ret2
        exact ⟨rfl, rfl⟩
      rw [if_neg c1]
      have d1 : decide (u2 < u1) = false := decide_eq_false c1
      clear c1
      by_cases c2 : u1 = u2
      · rw [if_pos c2]
        subst c2
        go_enter Tryz.func54, Tryz.ntmps54
        go_wp2_with fail
        refine CR.out.mono ?_
        rintro e w' ⟨rfl, rfl⟩
        go_wp2_with fail
        refine CP.out.mono ?_
        rintro e w' ⟨rfl, rfl⟩
        go_wp2_with fail
        go_ret2
        exact ⟨rfl, rfl⟩
      · rw [if_neg c2]
        have d2 : ((u1 : Int) == (u2 : Int)) = false := by rw [beq_eq_false_iff_ne]; omega
        clear c2
        go_enter Tryz.func54, Tryz.ntmps54
        go_wp2_with fail
        refine CR.out.mono ?_
        rintro e w' ⟨rfl, rfl⟩
        go_wp2_with fail
        refine CP.out.mono ?_
        rintro e w' ⟨rfl, rfl⟩
        go_wp2_with fail
        go_ret2
        exact ⟨rfl, rfl⟩
    · have hd : decide (lo < c) = false := decide_eq_false hc
      obtain ⟨u2, hu2⟩ : ∃ z, h0 + 0 = z := ⟨_, rfl⟩
      have hh : T * m / 18446744073709551616 = u2 := by rw [HH.out, if_neg hc, hu2]
      have e := HX.out
      rw [hh] at e
      rw [e]
      have u2e : (h0 : Int) + 0 = (u2 : Int) := by omega
      have hub : u2 ≤ 1000000000000000001 := by omega
      clear e hh hu2 hc
      obtain rfl : h0 = u2 := by omega
      clear u2e
      by_cases c1 : h0 < u1
      · rw [if_pos c1]
        have d1 : decide (h0 < u1) = true := decide_eq_true c1
        clear c1
        go_enter Tryz.func54, Tryz.ntmps54
        go_wp2_with fail
        refine CR.out.mono ?_
        rintro e w' ⟨rfl, rfl⟩
        go_wp2_with fail
        refine CP.out.mono ?_
        rintro e w' ⟨rfl, rfl⟩
        go_wp2_with fail
        go_ret2
        exact ⟨rfl, rfl⟩
      rw [if_neg c1]
      have d1 : decide (h0 < u1) = false := decide_eq_false c1
      clear c1
      by_cases c2 : u1 = h0
      · rw [if_pos c2]
        subst c2
        go_enter Tryz.func54, Tryz.ntmps54
        go_wp2_with fail
        refine CR.out.mono ?_
        rintro e w' ⟨rfl, rfl⟩
        go_wp2_with fail
        refine CP.out.mono ?_
        rintro e w' ⟨rfl, rfl⟩
        go_wp2_with fail
        go_ret2
        exact ⟨rfl, rfl⟩
      · rw [if_neg c2]
        have d2 : ((u1 : Int) == (h0 : Int)) = false := by rw [beq_eq_false_iff_ne]; omega
        clear c2
        go_enter Tryz.func54, Tryz.ntmps54
        go_wp2_with fail
        refine CR.out.mono ?_
        rintro e w' ⟨rfl, rfl⟩
        go_wp2_with fail
        refine CP.out.mono ?_
        rintro e w' ⟨rfl, rfl⟩
        go_wp2_with fail
        go_ret2
        exact ⟨rfl, rfl⟩

theorem leF_lvl {x : Nat} (hx : x < 18446744073709551616) (h : geF x 4599676419421066581 = true) : lvlB x = leF x 4607182418800017408 := by
  have h1 := (geF_iff hx (by decide)).1 h
  rw [show keyF 4599676419421066581 = 4599676419421066581 by decide] at h1
  rw [Bool.eq_iff_iff, leF_iff hx (by decide), show keyF 4607182418800017408 = 4607182418800017408 by decide]
  unfold lvlB
  rw [decide_eq_true_eq]
  have h2 := h1.2.2
  have n1 : ¬ nanW 4607182418800017408 := by unfold nanW; omega
  have h3 := h1.1
  unfold keyF at h2 ⊢
  unfold nanW at h3
  constructor
  · intro h
    refine ⟨h1.1, n1, ?_⟩
    split <;> omega
  · rintro ⟨_, _, h⟩
    split at h2 <;> split at h <;> omega
theorem nan_gt {x y : Nat} (hx : x < 18446744073709551616) (h : nanF x = true) : gtF x y = false := by
  unfold gtF ordF
  rw [ord_nan_l ((nanF_iff hx).1 h)]; rfl
theorem nan_ge {x y : Nat} (hx : x < 18446744073709551616) (h : nanF x = true) : geF x y = false := by
  unfold geF ordF
  rw [ord_nan_l ((nanF_iff hx).1 h)]; rfl
/-- options that are right, as the document asks -/
theorem right_doc {o : OptD} (h : o.wf) : rightO o = (lvlB o.level && (geF o.level 4599676419421066581 && (!nanF o.period && (gtF o.period 0 && (!nanF o.drift && geF o.drift 0))))) := by
  unfold rightO
  cases h1 : geF o.level 4599676419421066581 with
  | false => simp
  | true =>
    rw [leF_lvl h.level h1]
    cases hl : leF o.level 4607182418800017408 with
    | false => simp
    | true =>
      cases h3 : nanF o.period with
      | true => rw [nan_gt h.period h3]; simp
      | false =>
        cases h4 : gtF o.period 0 with
        | false => simp
        | true =>
          cases h5 : nanF o.drift with
          | true => rw [nan_ge h.drift h5]; simp
          | false => simp
set_option maxHeartbeats 4000000 in
theorem ROptRight_ok (o : OptD) (w : World) (h : o.wf) : Calls Tryz.prog 48 #[.agg o.cells.toArray] w fun e w' => e = .returned (.bool (rightO o)) ∧ w.grownBy w' none := by
  rw [right_doc h]
  have C1 := fun w => RLevel_ok o.level w h.level; have C2 := fun w => RNan_ok o.period w h.period; have C3 := fun w => RNan_ok o.drift w h.drift
  obtain ⟨x, y, z⟩ := o
  unfold OptD.cells
  dsimp only at *
  obtain ⟨b1, h1⟩ : ∃ b, lvlB x = b := ⟨_, rfl⟩
  obtain ⟨b2, h2⟩ : ∃ b, geF x 4599676419421066581 = b := ⟨_, rfl⟩
  obtain ⟨b3, h3⟩ : ∃ b, nanF y = b := ⟨_, rfl⟩
  obtain ⟨b4, h4⟩ : ∃ b, gtF y 0 = b := ⟨_, rfl⟩
  obtain ⟨b5, h5⟩ : ∃ b, nanF z = b := ⟨_, rfl⟩
  obtain ⟨b6, h6⟩ : ∃ b, geF z 0 = b := ⟨_, rfl⟩
  rw [h1] at C1; rw [h3] at C2; rw [h5] at C3
  rw [h1, h2, h3, h4, h5, h6]
  unfold geF ordF at h2 h6
  unfold gtF ordF at h4
  replace C1 := Lib.hid C1; replace C2 := Lib.hid C2; replace C3 := Lib.hid C3
  clear h h1 h3 h5
  cases b1 with
  | false =>
    go_enter Tryz.func48, Tryz.ntmps48
    go_wp2_with fail
    refine (C1.out _).mono ?_
    rintro e w' ⟨rfl, rfl⟩
    go_wp2_with fail
    refine (C2.out _).mono ?_
    rintro e w' ⟨rfl, rfl⟩
    go_wp2_with fail
    refine (C3.out _).mono ?_
    rintro e w' ⟨rfl, rfl⟩
    go_wp2_with fail
    go_ret
    exact ⟨rfl, World.grownBy_alloc _ _ none⟩
  | true =>
  cases b2 with
  | false =>
    go_enter Tryz.func48, Tryz.ntmps48
    go_wp2_with fail
    refine (C1.out _).mono ?_
    rintro e w' ⟨rfl, rfl⟩
    go_wp2_with fail
    refine (C2.out _).mono ?_
    rintro e w' ⟨rfl, rfl⟩
    go_wp2_with fail
    refine (C3.out _).mono ?_
    rintro e w' ⟨rfl, rfl⟩
    go_wp2_with fail
    go_ret
    exact ⟨rfl, World.grownBy_alloc _ _ none⟩
  | true =>
  cases b3 with
  | true =>
    go_enter Tryz.func48, Tryz.ntmps48
    go_wp2_with fail
    refine (C1.out _).mono ?_
    rintro e w' ⟨rfl, rfl⟩
    go_wp2_with fail
    refine (C2.out _).mono ?_
    rintro e w' ⟨rfl, rfl⟩
    go_wp2_with fail
    refine (C3.out _).mono ?_
    rintro e w' ⟨rfl, rfl⟩
    go_wp2_with fail
    go_ret
    exact ⟨rfl, World.grownBy_alloc _ _ none⟩
  | false =>
  cases b4 with
  | false =>
    go_enter Tryz.func48, Tryz.ntmps48
    go_wp2_with fail
    refine (C1.out _).mono ?_
    rintro e w' ⟨rfl, rfl⟩
    go_wp2_with fail
    refine (C2.out _).mono ?_
    rintro e w' ⟨rfl, rfl⟩
    go_wp2_with fail
    refine (C3.out _).mono ?_
    rintro e w' ⟨rfl, rfl⟩
    go_wp2_with fail
    go_ret
    exact ⟨rfl, World.grownBy_alloc _ _ none⟩
  | true =>
  cases b5 with
  | true =>
    go_enter Tryz.func48, Tryz.ntmps48
    go_wp2_with fail
    refine (C1.out _).mono ?_
    rintro e w' ⟨rfl, rfl⟩
    go_wp2_with fail
    refine (C2.out _).mono ?_
    rintro e w' ⟨rfl, rfl⟩
    go_wp2_with fail
    refine (C3.out _).mono ?_
    rintro e w' ⟨rfl, rfl⟩
    go_wp2_with fail
    go_ret
    exact ⟨rfl, World.grownBy_alloc _ _ none⟩
  | false =>
  go_enter Tryz.func48, Tryz.ntmps48
  go_wp2_with fail
  refine (C1.out _).mono ?_
  rintro e w' ⟨rfl, rfl⟩
  go_wp2_with fail
  refine (C2.out _).mono ?_
  rintro e w' ⟨rfl, rfl⟩
  go_wp2_with fail
  refine (C3.out _).mono ?_
  rintro e w' ⟨rfl, rfl⟩
  go_wp2_with fail
  go_ret
  exact ⟨rfl, World.grownBy_alloc _ _ none⟩

set_option maxHeartbeats 2000000 in
theorem RExpired_ok (t : Int) (now : Nat) (o : OptD) (w : World) (hn : now < 18446744073709551616) (ht : i64R t) : Calls Tryz.prog 50 #[.int .i64 t, .float .f64 now, .agg o.cells.toArray] w fun e w' => e = .returned (.bool (expF t now o)) ∧ w.grownBy w' none := by
  obtain ⟨x, y, z⟩ := o
  unfold expF OptD.cells
  dsimp only
  have CN := fun w => RNan_ok now w hn
  obtain ⟨b1, h1⟩ : ∃ b, nanF now = b := ⟨_, rfl⟩
  rw [h1] at CN ⊢
  replace CN := Lib.hid CN
  cases b1
  · have nn : ¬ nanW now := fun h => by rw [(nanF_iff hn).2 h] at h1; cases h1
    obtain ⟨z, hz⟩ := sub_ex hn nn (i2f_fin t ⟨ht.1, by have := ht.2; omega⟩).1
    have hs : subF now (i2f t) = z := by unfold subF i2f; rw [hz]; rfl
    rw [hs]
    have hsub := fun w => run_float_arith (P := Tryz.prog) w .sub 41 .f64 now (floatOfInt .f64 t) z hz
    obtain ⟨b2, h2⟩ : ∃ b, ltF z y = b := ⟨_, rfl⟩
    rw [h2]
    unfold ltF ordF at h2
    clear h1 nn hs hz ht hn
    go_enter Tryz.func50, Tryz.ntmps50
    go_wp2_with fail
    refine (CN.out _).mono ?_
    rintro e w' ⟨rfl, rfl⟩
    go_wp2_with fail
    go_ret
    exact ⟨rfl, World.grownBy_alloc _ _ none⟩
  · clear h1
    go_enter Tryz.func50, Tryz.ntmps50
    go_wp2_with fail
    refine (CN.out _).mono ?_
    rintro e w' ⟨rfl, rfl⟩
    go_wp2_with fail
    go_ret
    exact ⟨rfl, World.grownBy_alloc _ _ none⟩
/-- what a difference to itself is: nothing, or none -/
theorem sub_self_run (x : Nat) (w : World) (hx : x < 18446744073709551616) (hn : nanF x = false) : ∃ z w', (binOp .sub 41 (.float .f64 x) (.float .f64 x)).run Tryz.prog w = .ok (.float .f64 z) w' ∧ w.grownBy w' none ∧ (FloatKind.f64.format.order z 0 == some Ordering.eq) = finB x := by
  have nn : ¬ nanW x := fun h => by rw [(nanF_iff hx).2 h] at hn; cases hn
  rcases word_cases hx with h | h | h
  · exact absurd h nn
  · obtain ⟨z, e, h1, h2, h3⟩ := sub_same h
    refine ⟨z, w, run_float_arith w .sub _ .f64 x x z e, gb_refl w, ?_⟩
    rw [(finB_iff hx).2 h]
    rw [show FloatKind.f64.format.order z 0 = _ from ord_key h1 (by decide) h2 (by unfold nanW; omega), h3, show keyF 0 = 0 by decide]
    rfl
  · have hs : floatBits .sub .f64 x x = none := sub_inf h
    obtain ⟨z, h1, h2, h3⟩ := run_sub_none (P := Tryz.prog) (t := 41) hs w
    refine ⟨z, w.drew, h3, dr_grown w 1, ?_⟩
    rw [show FloatKind.f64.format.order z 0 = none from ord_nan_l h1]
    have : finB x = false := by
      cases hf : finB x with
      | false => rfl
      | true => have := (finB_iff hx).1 hf; unfold finF at this; omega
    rw [this]; rfl
theorem nan_fin {x : Nat} (hx : x < 18446744073709551616) (h : nanF x = true) : finB x = false := by
  rw [finB_eq hx, h]; rfl
set_option maxHeartbeats 2000000 in
theorem finite_ok (x : Nat) (w : World) (hx : x < 18446744073709551616) : Calls Tryz.prog 49 #[.float .f64 x] w fun e w' => e = .returned (.bool (finB x)) ∧ w.grownBy w' none := by
  have CN := RNan_ok x w hx
  cases hn : nanF x with
  | true =>
    rw [hn] at CN
    rw [nan_fin hx hn]
    replace CN := Lib.hid CN
    clear hn hx
    go_enter Tryz.func49, Tryz.ntmps49
    go_wp2_with fail
    refine CN.out.mono ?_
    rintro e w' ⟨rfl, rfl⟩
    go_wp2_with fail
    go_ret
    exact ⟨rfl, gb_refl _⟩
  | false =>
    rw [hn] at CN
    obtain ⟨z, w1, h1, h2, h3⟩ := sub_self_run x w hx hn
    obtain ⟨f, hf⟩ : ∃ f, finB x = f := ⟨_, rfl⟩
    rw [hf] at h3 ⊢
    replace CN := Lib.hid CN
    have G := Lib.hid h2
    clear hn hx hf h2
    go_enter Tryz.func49, Tryz.ntmps49
    go_wp2_with fail
    refine CN.out.mono ?_
    rintro e w' ⟨rfl, rfl⟩
    go_wp2_with fail
    go_ret
    exact ⟨rfl, G.out⟩

end Go.Proofs.YtbhghlendbcejaaGreatDoor
