/- Floats, plainly: the order of words, the word nearest to a number. No program. Floats, plainly: the order of all words, differences, that nearness keeps the order. No program. Floats, plainly: a difference to a number; the fields of a word; a word's place in the line. No program. -/
import Derived.Test.YtbhghlendbcejaaGreatDoorBase
import Derived.Laws.FloatArith
import Derived.Laws.Bits64b
namespace Go.Proofs.YtbhghlendbcejaaGreatDoor
open Ieee
set_option maxRecDepth 100000

abbrev FD : Format := FloatKind.f64.format
/-- 2^52; the word of infinity -/
theorem fd_binade : FD.binade = 4503599627370496 := by decide +kernel
theorem fd_inf : FD.infRung = 9218868437227405312 := by decide +kernel
theorem fd_sign : FD.signWeight = 9223372036854775808 := by decide +kernel
theorem fd_least : FD.leastPlace = -1074 := by decide +kernel
theorem fd_frac : FD.fractionBits = 52 := by decide +kernel
def mgF (x : Nat) : Nat := if x < 4503599627370496 then x else 4503599627370496 + x % 4503599627370496
def plF (x : Nat) : Nat := if x < 4503599627370496 then 0 else x / 4503599627370496 - 1
theorem read_pos {x : Nat} (h : x < 9218868437227405312) : FD.read x = .number false (mgF x) (-1074 + (plF x : Int)) := by
  unfold Format.read mgF plF
  rw [fd_binade, fd_inf, fd_sign, fd_least]
  have h1 : x / 9223372036854775808 = 0 := Nat.div_eq_of_lt (by omega)
  have h2 : x % 9223372036854775808 = x := Nat.mod_eq_of_lt (by omega)
  simp only [h1, h2]
  by_cases hb : x < 4503599627370496
  · simp [hb]
  · simp [hb, h]
theorem read_neg {x : Nat} (h : x < 9218868437227405312) : FD.read (9223372036854775808 + x) = .number true (mgF x) (-1074 + (plF x : Int)) := by
  unfold Format.read mgF plF
  rw [fd_binade, fd_inf, fd_sign, fd_least]
  have h1 : (9223372036854775808 + x) / 9223372036854775808 = 1 := by omega
  have h2 : (9223372036854775808 + x) % 9223372036854775808 = x := by omega
  simp only [h1, h2]
  by_cases hb : x < 4503599627370496
  · simp [hb]
  · simp [hb, h]
theorem shl (m k : Nat) : m <<< k = m * 2 ^ k := Nat.shiftLeft_eq m k
theorem val_lt {x y : Nat} (h : x < y) : plF x ≤ plF y ∧ mgF x < mgF y * 2 ^ (plF y - plF x) := by
  unfold plF mgF
  by_cases hx : x < 4503599627370496
  · rw [if_pos hx, if_pos hx]
    by_cases hy : y < 4503599627370496
    · rw [if_pos hy, if_pos hy]; simpa using h
    · rw [if_neg hy, if_neg hy]
      refine ⟨Nat.zero_le _, ?_⟩
      have : 1 ≤ 2 ^ (y / 4503599627370496 - 1 - 0) := Nat.one_le_two_pow
      have := Nat.mul_le_mul_left (4503599627370496 + y % 4503599627370496) this
      omega
  · have hy : ¬ y < 4503599627370496 := by omega
    rw [if_neg hx, if_neg hx, if_neg hy, if_neg hy]
    have hm : x / 4503599627370496 ≤ y / 4503599627370496 := Nat.div_le_div_right (Nat.le_of_lt h)
    refine ⟨by omega, ?_⟩
    rcases Nat.eq_or_lt_of_le hm with he | hl
    · rw [he, Nat.sub_self, Nat.pow_zero, Nat.mul_one]
      have h1 := Nat.div_add_mod x 4503599627370496; have h2 := Nat.div_add_mod y 4503599627370496
      rw [he] at h1
      omega
    · have h1 : 1 ≤ y / 4503599627370496 - 1 - (x / 4503599627370496 - 1) := by
        have : 1 ≤ x / 4503599627370496 := Nat.div_pos (by omega) (by decide)
        omega
      have h2 : 2 ^ 1 ≤ 2 ^ (y / 4503599627370496 - 1 - (x / 4503599627370496 - 1)) := Nat.pow_le_pow_right (by decide) h1
      have h3 := Nat.mul_le_mul_left (4503599627370496 + y % 4503599627370496) h2
      have := Nat.mod_lt x (show 0 < 4503599627370496 by decide)
      omega
theorem cmp_of {a b : Int} : compare a b = if a < b then .lt else if a = b then .eq else .gt := by
  unfold compare instOrdInt
  simp only [compareOfLessAndEq]
theorem shl_int (m : Nat) (k : Int) (n : Nat) (h : k = (n : Int)) : ((m <<< k.toNat : Nat) : Int) = ((m * 2 ^ n : Nat) : Int) := by rw [h, Int.toNat_natCast, shl]
theorem order_pos {x y : Nat} (hx : x < 9218868437227405312) (hy : y < 9218868437227405312) : FD.order x y = some (compare (x : Int) (y : Int)) := by
  unfold Format.order
  rw [read_pos hx, read_pos hy]
  unfold Datum.order
  dsimp only
  unfold signed
  simp only [Bool.false_eq_true, if_false]
  rcases Nat.lt_trichotomy x y with h | h | h
  · obtain ⟨h1, h2⟩ := val_lt h
    rw [shl_int _ _ 0 (by omega), shl_int _ _ (plF y - plF x) (by omega), cmp_of, cmp_of, if_pos (by rw [Nat.pow_zero, Nat.mul_one]; exact_mod_cast h2), if_pos (by omega)]
  · subst h; rw [cmp_of, cmp_of]; simp
  · obtain ⟨h1, h2⟩ := val_lt h
    rw [shl_int _ _ (plF x - plF y) (by omega), shl_int _ _ 0 (by omega), cmp_of, cmp_of]
    have h3 : ¬ ((mgF x * 2 ^ (plF x - plF y) : Nat) : Int) < ((mgF y * 2 ^ 0 : Nat) : Int) := by rw [Nat.pow_zero, Nat.mul_one]; omega
    have h4 : ¬ ((mgF x * 2 ^ (plF x - plF y) : Nat) : Int) = ((mgF y * 2 ^ 0 : Nat) : Int) := by rw [Nat.pow_zero, Nat.mul_one]; omega
    rw [if_neg h3, if_neg h4, if_neg (by omega), if_neg (by omega)]

/-! the nearest word -/
theorem cut_low (neg : Bool) (n drop : Nat) (h : drop ≤ n.log2 + 2) : n / 2 ^ drop ≤ Toward.even.cut neg n drop ∧ Toward.even.cut neg n drop ≤ n / 2 ^ drop + 1 := by
  unfold Toward.cut
  rw [Nat.min_eq_left h, shl, Nat.one_mul]
  dsimp only
  refine ⟨Nat.le_add_right _ _, ?_⟩
  have : ∀ b : Bool, b.toNat ≤ 1 := fun b => by cases b <;> decide
  have := this (decide (2 ^ drop < 2 * (n % 2 ^ drop)) || 2 ^ drop == 2 * (n % 2 ^ drop) && n / 2 ^ drop % 2 == 1)
  omega
theorem cut_zero (neg : Bool) (n : Nat) : Toward.even.cut neg n 0 = n := by
  unfold Toward.cut
  rw [Nat.min_eq_left (Nat.zero_le _), shl]
  simp [Nat.mod_one]
/-- where the last kept digit lies, above the least -/
def lastF (mag : Nat) (place : Int) : Int := max (place + mag.log2 - 52) (-1074)
def rungF (neg : Bool) (mag : Nat) (place : Int) : Nat :=
  if mag = 0 then 0 else min ((lastF mag place + 1074).toNat * 4503599627370496 + Toward.even.cut neg (mag <<< (place - lastF mag place).toNat) (lastF mag place - place).toNat) 9218868437227405312
theorem nearest_rung (neg : Bool) (mag : Nat) (place : Int) : FD.nearest neg mag place = FD.word neg (rungF neg mag place) := by
  unfold Format.nearest rungF lastF
  rw [fd_binade, fd_inf, fd_least, fd_frac]
  by_cases h : mag = 0
  · simp [h]
  · rw [if_neg h, if_neg h]
    dsimp only
    have e : ∀ z : Int, z - -1074 = z + 1074 := fun z => by omega
    rw [e]
    rfl
theorem kept_le {neg : Bool} {mag : Nat} {place : Int} (h : mag ≠ 0) (hL : -1074 ≤ place + mag.log2 - 52) :
    4503599627370496 ≤ Toward.even.cut neg (mag <<< (place - lastF mag place).toNat) (lastF mag place - place).toNat ∧ Toward.even.cut neg (mag <<< (place - lastF mag place).toNat) (lastF mag place - place).toNat ≤ 2 * 4503599627370496 := by
  have hl : lastF mag place = place + mag.log2 - 52 := by unfold lastF; omega
  have hlo := Nat.log2_self_le h
  have hhi : mag < 2 ^ (mag.log2 + 1) := Nat.lt_log2_self
  obtain ⟨L, hLe⟩ : ∃ L, mag.log2 = L := ⟨_, rfl⟩
  rw [hl]
  rw [hLe] at hlo hhi ⊢
  rcases Nat.lt_or_ge L 52 with h52 | h52
  · have e1 : (place - (place + (L : Int) - 52)).toNat = 52 - L := by omega
    have e2 : (place + (L : Int) - 52 - place).toNat = 0 := by omega
    rw [e1, e2, cut_zero, shl]
    have p1 : 2 ^ L * 2 ^ (52 - L) = 4503599627370496 := by rw [← Nat.pow_add, show L + (52 - L) = 52 by omega]
    have p2 : 2 ^ (L + 1) * 2 ^ (52 - L) = 2 * 4503599627370496 := by rw [← Nat.pow_add, show L + 1 + (52 - L) = 53 by omega]
    have h1 := Nat.mul_le_mul_right (2 ^ (52 - L)) hlo
    have h2 := Nat.mul_le_mul_right (2 ^ (52 - L)) (Nat.le_of_lt hhi)
    omega
  · have e1 : (place - (place + (L : Int) - 52)).toNat = 0 := by omega
    have e2 : (place + (L : Int) - 52 - place).toNat = L - 52 := by omega
    rw [e1, e2, shl, Nat.pow_zero, Nat.mul_one]
    obtain ⟨c1, c2⟩ := cut_low neg mag (L - 52) (by rw [hLe]; omega)
    have p1 : 2 ^ L = 4503599627370496 * 2 ^ (L - 52) := by rw [show 4503599627370496 = 2 ^ 52 by decide, ← Nat.pow_add, show 52 + (L - 52) = L by omega]
    have p2 : 2 ^ (L + 1) = 2 * 4503599627370496 * 2 ^ (L - 52) := by rw [Nat.pow_succ, p1]; omega
    have q : 0 < 2 ^ (L - 52) := Nat.two_pow_pos _
    have h1 : 4503599627370496 ≤ mag / 2 ^ (L - 52) := (Nat.le_div_iff_mul_le q).2 (by rw [← p1]; exact hlo)
    have h2 : mag / 2 ^ (L - 52) < 2 * 4503599627370496 := (Nat.div_lt_iff_lt_mul q).2 (by rw [← p2]; exact hhi)
    omega
theorem read_word (neg : Bool) {r : Nat} (h : r < 9218868437227405312) : ∃ m p, FD.read (FD.word neg r) = .number neg m p := by
  cases neg
  · exact ⟨_, _, read_pos h⟩
  · have e : FD.word true r = 9223372036854775808 + r := by show FD.signWeight + r = _; rw [fd_sign]
    rw [e]
    exact ⟨_, _, read_neg h⟩
theorem i2f_num (n : Int) (h : -9223372036854775808 ≤ n ∧ n ≤ 9223372036854775807) : ∃ s m p, FD.read (floatOfInt .f64 n) = .number s m p := by
  show ∃ s m p, FD.read (FD.nearest (n < 0) n.natAbs 0) = .number s m p
  rw [nearest_rung]
  have hr : rungF (decide (n < 0)) n.natAbs 0 < 9218868437227405312 := by
    unfold rungF
    by_cases h0 : n.natAbs = 0
    · rw [if_pos h0]; decide
    rw [if_neg h0]
    have hlog : n.natAbs.log2 ≤ 63 := by
      have := Nat.log2_self_le h0
      rcases Nat.lt_or_ge n.natAbs.log2 64 with hh | hh
      · omega
      · have := Nat.pow_le_pow_right (show 0 < 2 by decide) hh
        omega
    have hL : (-1074 : Int) ≤ 0 + n.natAbs.log2 - 52 := by omega
    obtain ⟨_, k2⟩ := kept_le (neg := decide (n < 0)) h0 hL
    have hl : lastF n.natAbs 0 = 0 + n.natAbs.log2 - 52 := by unfold lastF; omega
    have h3 : (lastF n.natAbs 0 + 1074).toNat ≤ 1085 := by omega
    have h4 := Nat.mul_le_mul_right 4503599627370496 h3
    have h5 : 1085 * 4503599627370496 + 2 * 4503599627370496 < 9218868437227405312 := by decide
    omega
  obtain ⟨m, p, e⟩ := read_word (decide (n < 0)) hr
  exact ⟨_, m, p, e⟩

/-- what a word is worth, in units of the least place -/
def valN (x : Nat) : Nat := mgF x * 2 ^ plF x
def keyF (x : Nat) : Int := if x < 9223372036854775808 then (x : Int) else -((x - 9223372036854775808 : Nat) : Int)
def valF (x : Nat) : Int := if x < 9223372036854775808 then (valN x : Int) else -(valN (x - 9223372036854775808) : Int)
/-- is a word a number? -/
def finF (x : Nat) : Prop := x < 9223372036854775808 ∧ x < 9218868437227405312 ∨ 9223372036854775808 ≤ x ∧ x - 9223372036854775808 < 9218868437227405312
/-- is a word none? -/
def nanW (x : Nat) : Prop := x < 9223372036854775808 ∧ 9218868437227405312 < x ∨ 9223372036854775808 ≤ x ∧ x < 2 * 9223372036854775808 ∧ 9218868437227405312 < x - 9223372036854775808
theorem valN_lt {x y : Nat} (h : x < y) : valN x < valN y := by
  obtain ⟨h1, h2⟩ := val_lt h
  unfold valN
  have e : 2 ^ plF y = 2 ^ (plF y - plF x) * 2 ^ plF x := by rw [← Nat.pow_add, Nat.sub_add_cancel h1]
  rw [e, ← Nat.mul_assoc]
  exact Nat.mul_lt_mul_of_pos_right h2 (Nat.two_pow_pos _)
theorem valN_inj {x y : Nat} : (valN x < valN y ↔ x < y) ∧ (valN x = valN y ↔ x = y) := by
  rcases Nat.lt_trichotomy x y with h | h | h
  · have := valN_lt h; omega
  · subst h; omega
  · have := valN_lt h; omega
theorem valN_zero : valN 0 = 0 := by decide
theorem valF_key {x y : Nat} : valF x < valF y ↔ keyF x < keyF y := by
  unfold valF keyF
  have h1 := @valN_inj x y; have h2 := @valN_inj (x - 9223372036854775808) (y - 9223372036854775808)
  have z := valN_zero
  have z1 := @valN_inj 0 x; have z2 := @valN_inj 0 y; have z3 := @valN_inj 0 (x - 9223372036854775808); have z4 := @valN_inj 0 (y - 9223372036854775808)
  split <;> split <;> omega
theorem valF_key_le {x y : Nat} : valF x ≤ valF y ↔ keyF x ≤ keyF y := by
  have := @valF_key y x; omega
theorem read_fin {x : Nat} (h : finF x) : FD.read x = .number (decide (9223372036854775808 ≤ x)) (mgF (if x < 9223372036854775808 then x else x - 9223372036854775808)) (-1074 + (plF (if x < 9223372036854775808 then x else x - 9223372036854775808) : Int)) := by
  rcases h with ⟨h1, h2⟩ | ⟨h1, h2⟩
  · rw [if_pos h1, read_pos h2]
    congr 1
    exact (decide_eq_false (by omega)).symm
  · rw [if_neg (by omega)]
    have := read_neg h2
    rw [show 9223372036854775808 + (x - 9223372036854775808) = x by omega] at this
    rw [this]
    congr 1
    exact (decide_eq_true h1).symm
theorem read_inf_pos : FD.read 9218868437227405312 = .infinity false := by decide +kernel
theorem read_inf_neg : FD.read (9223372036854775808 + 9218868437227405312) = .infinity true := by decide +kernel
theorem read_nan {x : Nat} (h : nanW x) : ∃ s f, FD.read x = .nan s f := by
  unfold Format.read
  rw [fd_binade, fd_inf, fd_sign, fd_least]
  have hm : x % 9223372036854775808 > 9218868437227405312 := by
    rcases h with ⟨h1, h2⟩ | ⟨h1, h2, h3⟩ <;> omega
  dsimp only
  rw [if_neg (by omega), if_neg (by omega), if_neg (by omega)]
  exact ⟨_, _, rfl⟩
theorem word_cases {x : Nat} (h : x < 18446744073709551616) : nanW x ∨ finF x ∨ x = 9218868437227405312 ∨ x = 9223372036854775808 + 9218868437227405312 := by
  unfold nanW finF; omega
theorem signed_up (s : Bool) (m : Nat) (k : Int) (n : Nat) (h : k.toNat = n) : signed s m k.toNat = if s then -((m * 2 ^ n : Nat) : Int) else ((m * 2 ^ n : Nat) : Int) := by
  unfold signed
  rw [h, shl]
theorem scaled {a p b : Nat} (hb : b ≤ p) : a * 2 ^ (p - b) * 2 ^ b = a * 2 ^ p := by
  rw [Nat.mul_assoc, ← Nat.pow_add, Nat.sub_add_cancel hb]
theorem cmp_scale {a b : Int} {k : Int} (hk : 0 < k) : compare (a * k) (b * k) = compare a b := by
  have h1 : a * k < b * k ↔ a < b := ⟨fun h => Int.lt_of_mul_lt_mul_right h (Int.le_of_lt hk), fun h => Int.mul_lt_mul_of_pos_right h hk⟩
  have h2 : a * k = b * k ↔ a = b := ⟨fun h => Int.eq_of_mul_eq_mul_right (by omega) h, fun h => by rw [h]⟩
  rw [cmp_of, cmp_of]
  simp only [h1, h2]
theorem cmp_congr {a b c d : Int} (h1 : a < b ↔ c < d) (h2 : b < a ↔ d < c) : compare a b = compare c d := by
  rw [cmp_of, cmp_of]
  by_cases h : a < b
  · rw [if_pos h, if_pos (h1.1 h)]
  · rw [if_neg h, if_neg (fun q => h (h1.2 q))]
    by_cases h' : b < a
    · rw [if_neg (by omega), if_neg (by have := h2.1 h'; omega)]
    · have n1 : ¬ c < d := fun q => h (h1.2 q)
      have n2 : ¬ d < c := fun q => h' (h2.2 q)
      rw [if_pos (by omega), if_pos (by omega)]
theorem ord_fin {x y : Nat} (hx : finF x) (hy : finF y) : FD.order x y = some (compare (keyF x) (keyF y)) := by
  unfold Format.order
  rw [read_fin hx, read_fin hy]
  unfold Datum.order
  dsimp only
  congr 1
  obtain ⟨a, ha⟩ : ∃ a, (if x < 9223372036854775808 then x else x - 9223372036854775808) = a := ⟨_, rfl⟩
  obtain ⟨b, hb⟩ : ∃ b, (if y < 9223372036854775808 then y else y - 9223372036854775808) = b := ⟨_, rfl⟩
  rw [ha, hb]
  obtain ⟨m, hm⟩ : ∃ m, min (plF a) (plF b) = m := ⟨_, rfl⟩
  have e1 : (-1074 + (plF a : Int) - min (-1074 + (plF a : Int)) (-1074 + (plF b : Int))).toNat = plF a - m := by omega
  have e2 : (-1074 + (plF b : Int) - min (-1074 + (plF a : Int)) (-1074 + (plF b : Int))).toNat = plF b - m := by omega
  rw [signed_up _ _ _ _ e1, signed_up _ _ _ _ e2]
  have hk : (0 : Int) < ((2 ^ m : Nat) : Int) := by exact_mod_cast Nat.two_pow_pos m
  rw [← cmp_scale hk]
  have s1 : ((mgF a * 2 ^ (plF a - m) : Nat) : Int) * ((2 ^ m : Nat) : Int) = (valN a : Int) := by rw [← Int.natCast_mul, scaled (by omega)]; rfl
  have s2 : ((mgF b * 2 ^ (plF b - m) : Nat) : Int) * ((2 ^ m : Nat) : Int) = (valN b : Int) := by rw [← Int.natCast_mul, scaled (by omega)]; rfl
  have v1 : (if decide (9223372036854775808 ≤ x) = true then -((mgF a * 2 ^ (plF a - m) : Nat) : Int) else ((mgF a * 2 ^ (plF a - m) : Nat) : Int)) * ((2 ^ m : Nat) : Int) = valF x := by
    unfold valF
    by_cases h : x < 9223372036854775808
    · rw [if_neg (by simpa using h), if_pos h, s1, ← ha, if_pos h]
    · rw [if_pos (by simpa using Nat.le_of_not_lt h), if_neg h, Int.neg_mul, s1, ← ha, if_neg h]
  have v2 : (if decide (9223372036854775808 ≤ y) = true then -((mgF b * 2 ^ (plF b - m) : Nat) : Int) else ((mgF b * 2 ^ (plF b - m) : Nat) : Int)) * ((2 ^ m : Nat) : Int) = valF y := by
    unfold valF
    by_cases h : y < 9223372036854775808
    · rw [if_neg (by simpa using h), if_pos h, s2, ← hb, if_pos h]
    · rw [if_pos (by simpa using Nat.le_of_not_lt h), if_neg h, Int.neg_mul, s2, ← hb, if_neg h]
  rw [v1, v2]
  exact cmp_congr valF_key valF_key
theorem key_inf : keyF 9218868437227405312 = 9218868437227405312 := by decide
theorem key_minf : keyF (9223372036854775808 + 9218868437227405312) = -9218868437227405312 := by decide
theorem key_fin {x : Nat} (h : finF x) : -9218868437227405312 < keyF x ∧ keyF x < 9218868437227405312 := by
  unfold finF at h
  unfold keyF
  split <;> omega
theorem ord_key {x y : Nat} (hx : x < 18446744073709551616) (hy : y < 18446744073709551616) (nx : ¬ nanW x) (ny : ¬ nanW y) : FD.order x y = some (compare (keyF x) (keyF y)) := by
  rcases word_cases hx with h | h | h | h
  · exact absurd h nx
  · have hk := key_fin h
    obtain ⟨sg, m, pl, e⟩ : ∃ sg m pl, FD.read x = .number sg m pl := ⟨_, _, _, read_fin h⟩
    rcases word_cases hy with q | q | q | q
    · exact absurd q ny
    · exact ord_fin h q
    · subst q
      unfold Format.order
      rw [e, read_inf_pos, key_inf, cmp_of, if_pos hk.2]; rfl
    · subst q
      unfold Format.order
      rw [e, read_inf_neg, key_minf, cmp_of, if_neg (by omega), if_neg (by omega)]; rfl
  · subst h
    rcases word_cases hy with q | q | q | q
    · exact absurd q ny
    · have hk := key_fin q
      obtain ⟨sg, m, pl, e⟩ : ∃ sg m pl, FD.read y = .number sg m pl := ⟨_, _, _, read_fin q⟩
      unfold Format.order
      rw [e, read_inf_pos, key_inf, cmp_of, if_neg (by omega), if_neg (by omega)]; rfl
    · subst q; decide +kernel
    · subst q; decide +kernel
  · subst h
    rcases word_cases hy with q | q | q | q
    · exact absurd q ny
    · have hk := key_fin q
      obtain ⟨sg, m, pl, e⟩ : ∃ sg m pl, FD.read y = .number sg m pl := ⟨_, _, _, read_fin q⟩
      unfold Format.order
      rw [e, read_inf_neg, key_minf, cmp_of, if_pos hk.1]; rfl
    · subst q; decide +kernel
    · subst q; decide +kernel
theorem ord_nan_l {x y : Nat} (h : nanW x) : FD.order x y = none := by
  obtain ⟨s, f, e⟩ := read_nan h
  unfold Format.order
  rw [e]; rfl
theorem ord_nan_r {x y : Nat} (h : nanW y) : FD.order x y = none := by
  obtain ⟨s, f, e⟩ := read_nan h
  unfold Format.order
  rw [e]
  cases FD.read x <;> rfl

/-! rounding -/
def rhe (n g : Nat) : Nat := n / g + (decide (g < 2 * (n % g)) || g == 2 * (n % g) && n / g % 2 == 1).toNat
theorem cut_rhe (neg : Bool) (n drop : Nat) (h : drop ≤ n.log2 + 2) : Toward.even.cut neg n drop = rhe n (2 ^ drop) := by
  unfold Toward.cut rhe
  rw [Nat.min_eq_left h, shl, Nat.one_mul]
theorem rhe_one (n : Nat) : rhe n 1 = n := by unfold rhe; simp [Nat.mod_one]
theorem rhe_mul (n g c : Nat) (hc : 0 < c) : rhe (n * c) (g * c) = rhe n g := by
  unfold rhe
  rw [Nat.mul_div_mul_right _ _ hc, Nat.mul_mod_mul_right]
  have e1 : (g * c < 2 * (n % g * c)) ↔ (g < 2 * (n % g)) := by rw [← Nat.mul_assoc]; exact Nat.mul_lt_mul_right hc
  have e2 : (g * c = 2 * (n % g * c)) ↔ (g = 2 * (n % g)) := by rw [← Nat.mul_assoc]; exact Nat.mul_left_inj (by omega)
  have d1 : decide (g * c < 2 * (n % g * c)) = decide (g < 2 * (n % g)) := by simp [e1]
  have d2 : (g * c == 2 * (n % g * c)) = (g == 2 * (n % g)) := by rw [Bool.eq_iff_iff]; simp [e2]
  rw [d1, d2]
theorem rhe_bound (n g : Nat) : n / g ≤ rhe n g ∧ rhe n g ≤ n / g + 1 := by
  unfold rhe
  have : ∀ b : Bool, b.toNat ≤ 1 := fun b => by cases b <;> decide
  have := this (decide (g < 2 * (n % g)) || g == 2 * (n % g) && n / g % 2 == 1)
  omega
theorem rhe_mono {a b : Nat} (g : Nat) (h : a ≤ b) : rhe a g ≤ rhe b g := by
  have hq := Nat.div_le_div_right (c := g) h
  rcases Nat.eq_or_lt_of_le hq with he | hl
  · have hr : a % g ≤ b % g := by
      have h1 := Nat.div_add_mod a g; have h2 := Nat.div_add_mod b g
      rw [he] at h1; omega
    unfold rhe
    rw [he]
    apply Nat.add_le_add_left
    have key : (decide (g < 2 * (a % g)) || g == 2 * (a % g) && b / g % 2 == 1) = true → (decide (g < 2 * (b % g)) || g == 2 * (b % g) && b / g % 2 == 1) = true := by
      simp only [Bool.or_eq_true, decide_eq_true_eq, Bool.and_eq_true, beq_iff_eq]
      rintro (h1 | ⟨h1, h2⟩)
      · exact .inl (by omega)
      · by_cases h3 : g < 2 * (b % g)
        · exact .inl h3
        · exact .inr ⟨by omega, h2⟩
    cases h1 : (decide (g < 2 * (a % g)) || g == 2 * (a % g) && b / g % 2 == 1) with
    | false => exact Nat.zero_le _
    | true => rw [key h1]; exact Nat.le_refl _
  · have := rhe_bound a g; have := rhe_bound b g; omega
/-- the rung of so many units -/
def rungV (V : Nat) : Nat := min ((V.log2 - 52) * 4503599627370496 + rhe V (2 ^ (V.log2 - 52))) 9218868437227405312
theorem log2_mul_pow {m : Nat} (h : m ≠ 0) (k : Nat) : (m * 2 ^ k).log2 = m.log2 + k := by
  have hm : m * 2 ^ k ≠ 0 := Nat.mul_ne_zero h (Nat.ne_of_gt (Nat.two_pow_pos _))
  rw [Nat.log2_eq_iff hm]
  have a := Nat.log2_self_le h; have b : m < 2 ^ (m.log2 + 1) := Nat.lt_log2_self
  have p1 : 2 ^ (m.log2 + k) = 2 ^ m.log2 * 2 ^ k := by rw [Nat.pow_add]
  have p2 : 2 ^ (m.log2 + k + 1) = 2 ^ (m.log2 + 1) * 2 ^ k := by rw [show m.log2 + k + 1 = m.log2 + 1 + k by omega, Nat.pow_add]
  rw [p1, p2]
  exact ⟨Nat.mul_le_mul_right _ a, Nat.mul_lt_mul_of_pos_right b (Nat.two_pow_pos _)⟩
theorem rungF_V (neg : Bool) (mag : Nat) (place : Int) (k : Nat) (hk : place = -1074 + (k : Int)) : rungF neg mag place = rungV (mag * 2 ^ k) := by
  unfold rungF rungV
  by_cases h : mag = 0
  · subst h
    rw [if_pos rfl, Nat.zero_mul]
    decide
  rw [if_neg h, log2_mul_pow h]
  have hl : lastF mag place = -1074 + ((mag.log2 + k - 52 : Nat) : Int) := by unfold lastF; omega
  obtain ⟨d, hd⟩ : ∃ d, mag.log2 + k - 52 = d := ⟨_, rfl⟩
  rw [hd] at hl
  rw [hl, hd, hk]
  have e1 : (-1074 + (d : Int) + 1074).toNat = d := by omega
  rw [e1]
  congr 2
  by_cases hkd : k ≤ d
  · have e2 : (-1074 + (k : Int) - (-1074 + (d : Int))).toNat = 0 := by omega
    have e3 : (-1074 + (d : Int) - (-1074 + (k : Int))).toNat = d - k := by omega
    rw [e2, e3, shl, Nat.pow_zero, Nat.mul_one, cut_rhe _ _ _ (by omega), ← rhe_mul mag (2 ^ (d - k)) (2 ^ k) (Nat.two_pow_pos _), ← Nat.pow_add, Nat.sub_add_cancel hkd]
  · have e2 : (-1074 + (k : Int) - (-1074 + (d : Int))).toNat = k - d := by omega
    have e3 : (-1074 + (d : Int) - (-1074 + (k : Int))).toNat = 0 := by omega
    rw [e2, e3, shl, cut_zero]
    have := rhe_mul (mag * 2 ^ (k - d)) 1 (2 ^ d) (Nat.two_pow_pos _)
    rw [rhe_one, Nat.one_mul, Nat.mul_assoc, ← Nat.pow_add, Nat.sub_add_cancel (by omega)] at this
    exact this.symm
theorem rhe_kept {V : Nat} (h : 52 ≤ V.log2) : 4503599627370496 ≤ rhe V (2 ^ (V.log2 - 52)) ∧ rhe V (2 ^ (V.log2 - 52)) ≤ 2 * 4503599627370496 := by
  have h0 : V ≠ 0 := by intro e; subst e; simp at h
  have hlo := Nat.log2_self_le h0; have hhi : V < 2 ^ (V.log2 + 1) := Nat.lt_log2_self
  obtain ⟨L, hL⟩ : ∃ L, V.log2 = L := ⟨_, rfl⟩
  rw [hL] at h hlo hhi ⊢
  have p1 : 2 ^ L = 4503599627370496 * 2 ^ (L - 52) := by rw [show 4503599627370496 = 2 ^ 52 by decide, ← Nat.pow_add, show 52 + (L - 52) = L by omega]
  have p2 : 2 ^ (L + 1) = 2 * 4503599627370496 * 2 ^ (L - 52) := by rw [Nat.pow_succ, p1]; omega
  have q : 0 < 2 ^ (L - 52) := Nat.two_pow_pos _
  have h1 : 4503599627370496 ≤ V / 2 ^ (L - 52) := (Nat.le_div_iff_mul_le q).2 (by rw [← p1]; exact hlo)
  have h2 : V / 2 ^ (L - 52) < 2 * 4503599627370496 := (Nat.div_lt_iff_lt_mul q).2 (by rw [← p2]; exact hhi)
  have := rhe_bound V (2 ^ (L - 52))
  omega
theorem log2_mono {a b : Nat} (h : a ≤ b) : a.log2 ≤ b.log2 := by
  by_cases h0 : a = 0
  · subst h0; simp
  · exact (Nat.le_log2 (by omega)).2 (Nat.le_trans (Nat.log2_self_le h0) h)
theorem rungV_mono {a b : Nat} (h : a ≤ b) : rungV a ≤ rungV b := by
  unfold rungV
  have hl := log2_mono h
  refine Nat.le_min.2 ⟨Nat.le_trans (Nat.min_le_left _ _) ?_, Nat.min_le_right _ _⟩
  rcases Nat.eq_or_lt_of_le (show a.log2 - 52 ≤ b.log2 - 52 by omega) with he | hlt
  · rw [he]
    exact Nat.add_le_add_left (rhe_mono _ h) _
  · obtain ⟨k1, _⟩ := rhe_kept (V := b) (by omega)
    have ka : rhe a (2 ^ (a.log2 - 52)) ≤ 2 * 4503599627370496 := by
      by_cases h52 : 52 ≤ a.log2
      · exact (rhe_kept h52).2
      · rw [show a.log2 - 52 = 0 by omega, Nat.pow_zero, rhe_one]
        have : a < 2 ^ (a.log2 + 1) := Nat.lt_log2_self
        have := Nat.pow_le_pow_right (show 0 < 2 by decide) (show a.log2 + 1 ≤ 52 by omega)
        have e : (2 : Nat) ^ 52 = 4503599627370496 := by decide
        omega
    have := Nat.mul_le_mul_right 4503599627370496 (show a.log2 - 52 + 1 ≤ b.log2 - 52 by omega)
    rw [Nat.add_mul] at this
    omega
theorem rungV_inf (V : Nat) : rungV V ≤ 9218868437227405312 := Nat.min_le_right _ _
/-- what is a word is its own nearest -/
theorem rungV_val {y : Nat} (h : y < 9218868437227405312) : rungV (valN y) = y := by
  unfold valN mgF plF
  by_cases hy : y < 4503599627370496
  · rw [if_pos hy, if_pos hy, Nat.pow_zero, Nat.mul_one]
    unfold rungV
    have : y.log2 - 52 = 0 := by
      by_cases h0 : y = 0
      · subst h0; rfl
      · have := Nat.log2_self_le h0
        rcases Nat.lt_or_ge y.log2 52 with h | h
        · omega
        · have := Nat.pow_le_pow_right (show 0 < 2 by decide) h
          have e : (2 : Nat) ^ 52 = 4503599627370496 := by decide
          omega
    rw [this, Nat.zero_mul, Nat.zero_add, Nat.pow_zero, rhe_one]
    exact Nat.min_eq_left (by omega)
  · rw [if_neg hy, if_neg hy]
    unfold rungV
    have hm := Nat.mod_lt y (show 0 < 4503599627370496 by decide)
    have hlog : (4503599627370496 + y % 4503599627370496).log2 = 52 := by
      rw [Nat.log2_eq_iff (by omega)]
      have e : (2 : Nat) ^ 52 = 4503599627370496 := by decide
      have e2 : (2 : Nat) ^ (52 + 1) = 2 * 4503599627370496 := by decide
      omega
    rw [log2_mul_pow (by omega), hlog, Nat.add_sub_cancel_left]
    have := rhe_mul (4503599627370496 + y % 4503599627370496) 1 (2 ^ (y / 4503599627370496 - 1)) (Nat.two_pow_pos _)
    rw [rhe_one, Nat.one_mul] at this
    rw [this]
    have h1 : 1 ≤ y / 4503599627370496 := Nat.div_pos (by omega) (by decide)
    have h2 := Nat.div_add_mod y 4503599627370496
    have h3 : (y / 4503599627370496 - 1) * 4503599627370496 + 4503599627370496 = 4503599627370496 * (y / 4503599627370496) := by
      rw [Nat.sub_mul, Nat.one_mul, Nat.mul_comm]
      have := Nat.mul_le_mul_left 4503599627370496 h1
      omega
    rw [Nat.min_eq_left (by omega)]
    omega
/-- the key of so many units -/
def keyV (v : Int) : Int := if v < 0 then -(rungV v.natAbs : Int) else (rungV v.natAbs : Int)
theorem keyV_mono {a b : Int} (h : a ≤ b) : keyV a ≤ keyV b := by
  unfold keyV
  split <;> split
  · have := rungV_mono (show b.natAbs ≤ a.natAbs by omega); omega
  · omega
  · omega
  · have := rungV_mono (show a.natAbs ≤ b.natAbs by omega); omega
theorem key_word (neg : Bool) (r : Nat) (h : r ≤ 9218868437227405312) : keyF (FD.word neg r) = (if neg then -(r : Int) else (r : Int)) ∧ ¬ nanW (FD.word neg r) ∧ FD.word neg r < 18446744073709551616 ∧ (r < 9218868437227405312 → finF (FD.word neg r)) := by
  unfold Format.word
  rw [fd_sign]
  cases neg
  · simp only [Bool.false_eq_true, if_false]
    unfold keyF nanW finF
    rw [if_pos (by omega)]
    exact ⟨rfl, by omega, by omega, fun _ => by omega⟩
  · simp only [if_true]
    unfold keyF nanW finF
    rw [if_neg (by omega)]
    exact ⟨by omega, by omega, by omega, fun _ => by omega⟩
/-- a difference of two numbers -/
theorem sub_fin {x y : Nat} (hx : finF x) (hy : finF y) : ∃ z, floatBits .sub .f64 x y = some z ∧ z < 18446744073709551616 ∧ ¬ nanW z ∧ keyF z = keyV (valF x - valF y) := by
  show ∃ z, FD.sub x y = some z ∧ _
  unfold Format.sub
  rw [read_fin hx, read_fin hy]
  obtain ⟨a, ha⟩ : ∃ a, (if x < 9223372036854775808 then x else x - 9223372036854775808) = a := ⟨_, rfl⟩
  obtain ⟨b, hb⟩ : ∃ b, (if y < 9223372036854775808 then y else y - 9223372036854775808) = b := ⟨_, rfl⟩
  rw [ha, hb]
  unfold Datum.opposite Datum.sum
  dsimp only
  obtain ⟨m, hm⟩ : ∃ m, min (plF a) (plF b) = m := ⟨_, rfl⟩
  have e0 : min (-1074 + (plF a : Int)) (-1074 + (plF b : Int)) = -1074 + (m : Int) := by omega
  rw [e0]
  have e1 : (-1074 + (plF a : Int) - (-1074 + (m : Int))).toNat = plF a - m := by omega
  have e2 : (-1074 + (plF b : Int) - (-1074 + (m : Int))).toNat = plF b - m := by omega
  rw [signed_up _ _ _ _ e1, signed_up _ _ _ _ e2]
  have s1 : ((mgF a * 2 ^ (plF a - m) : Nat) : Int) * ((2 ^ m : Nat) : Int) = (valN a : Int) := by rw [← Int.natCast_mul, scaled (by omega)]; rfl
  have s2 : ((mgF b * 2 ^ (plF b - m) : Nat) : Int) * ((2 ^ m : Nat) : Int) = (valN b : Int) := by rw [← Int.natCast_mul, scaled (by omega)]; rfl
  have v1 : (if decide (9223372036854775808 ≤ x) = true then -((mgF a * 2 ^ (plF a - m) : Nat) : Int) else ((mgF a * 2 ^ (plF a - m) : Nat) : Int)) * ((2 ^ m : Nat) : Int) = valF x := by
    unfold valF
    by_cases h : x < 9223372036854775808
    · rw [if_neg (by simpa using h), if_pos h, s1, ← ha, if_pos h]
    · rw [if_pos (by simpa using Nat.le_of_not_lt h), if_neg h, Int.neg_mul, s1, ← ha, if_neg h]
  have v2 : (if (!decide (9223372036854775808 ≤ y)) = true then -((mgF b * 2 ^ (plF b - m) : Nat) : Int) else ((mgF b * 2 ^ (plF b - m) : Nat) : Int)) * ((2 ^ m : Nat) : Int) = - valF y := by
    unfold valF
    by_cases h : y < 9223372036854775808
    · rw [if_pos (by simpa using h), if_pos h, Int.neg_mul, s2, ← hb, if_pos h]
    · rw [if_neg (by simpa using Nat.le_of_not_lt h), if_neg h, s2, ← hb, if_neg h, Int.neg_neg]
  obtain ⟨t, ht⟩ : ∃ t, (if decide (9223372036854775808 ≤ x) = true then -((mgF a * 2 ^ (plF a - m) : Nat) : Int) else ((mgF a * 2 ^ (plF a - m) : Nat) : Int)) + (if (!decide (9223372036854775808 ≤ y)) = true then -((mgF b * 2 ^ (plF b - m) : Nat) : Int) else ((mgF b * 2 ^ (plF b - m) : Nat) : Int)) = t := ⟨_, rfl⟩
  have hv : t * ((2 ^ m : Nat) : Int) = valF x - valF y := by rw [← ht, Int.add_mul, v1, v2]; omega
  rw [ht]
  obtain ⟨s, hs⟩ : ∃ s, (if t = 0 then (decide (9223372036854775808 ≤ x) && !decide (9223372036854775808 ≤ y)) else decide (t < 0)) = s := ⟨_, rfl⟩
  rw [hs]
  refine ⟨_, rfl, ?_⟩
  have hw : FD.write (.number s t.natAbs (-1074 + (m : Int))) = FD.word s (rungV (t.natAbs * 2 ^ m)) := by
    show FD.nearest _ _ _ = _
    rw [nearest_rung, rungF_V _ _ _ m rfl]
  rw [hw]
  have hr := rungV_inf (t.natAbs * 2 ^ m)
  obtain ⟨k1, k2, k3, _⟩ := key_word s _ hr
  refine ⟨k3, k2, ?_⟩
  rw [k1, ← hv]
  have hp : (0 : Int) < ((2 ^ m : Nat) : Int) := by exact_mod_cast Nat.two_pow_pos m
  have hn : (t * ((2 ^ m : Nat) : Int)).natAbs = t.natAbs * 2 ^ m := by rw [Int.natAbs_mul]; simp
  unfold keyV
  rw [hn]
  by_cases h0 : t = 0
  · subst h0
    have : rungV ((0 : Int).natAbs * 2 ^ m) = 0 := by rw [Int.natAbs_zero, Nat.zero_mul]; decide
    rw [this]; simp
  · rw [if_neg h0] at hs
    by_cases hneg : t < 0
    · have := Int.mul_neg_of_neg_of_pos hneg hp
      rw [← hs, if_pos (by simpa using hneg), if_pos this]
    · have := Int.mul_nonneg (show 0 ≤ t by omega) (Int.le_of_lt hp)
      rw [← hs, if_neg (by simpa using hneg), if_neg (by omega)]
/-- a whole number as a float -/
theorem i2f_fin (n : Int) (h : -9223372036854775808 ≤ n ∧ n ≤ 9223372036854775807) : finF (floatOfInt .f64 n) ∧ keyF (floatOfInt .f64 n) = keyV (n * ((2 ^ 1074 : Nat) : Int)) ∧ floatOfInt .f64 n < 18446744073709551616 := by
  have hw : floatOfInt .f64 n = FD.word (decide (n < 0)) (rungV (n.natAbs * 2 ^ 1074)) := by
    show FD.nearest _ _ _ = _
    rw [nearest_rung, rungF_V _ _ _ 1074 (by decide)]
  have hr : rungV (n.natAbs * 2 ^ 1074) < 9218868437227405312 := Nat.lt_of_le_of_lt (rungV_mono (Nat.mul_le_mul_right _ (show n.natAbs ≤ 9223372036854775808 by omega))) (by decide +kernel)
  obtain ⟨k1, k2, k3, k4⟩ := key_word (decide (n < 0)) _ (Nat.le_of_lt hr)
  rw [hw]
  refine ⟨k4 hr, ?_, k3⟩
  rw [k1]
  have hp : (0 : Int) < ((2 ^ 1074 : Nat) : Int) := by exact_mod_cast Nat.two_pow_pos 1074
  obtain ⟨q, hq⟩ : ∃ q : Nat, 2 ^ 1074 = q := ⟨_, rfl⟩
  rw [hq] at hp ⊢
  have hn : (n * (q : Int)).natAbs = n.natAbs * q := by rw [Int.natAbs_mul, Int.natAbs_natCast]
  unfold keyV
  rw [hn]
  by_cases hneg : n < 0
  · have := Int.mul_neg_of_neg_of_pos hneg hp
    rw [if_pos (by simpa using hneg), if_pos this]
  · have := Int.mul_nonneg (show 0 ≤ n by omega) (Int.le_of_lt hp)
    rw [if_neg (by simpa using hneg), if_neg (by omega)]
theorem i2f_le {m n : Int} (hm : -9223372036854775808 ≤ m ∧ m ≤ 9223372036854775807) (hn : -9223372036854775808 ≤ n ∧ n ≤ 9223372036854775807) (h : m ≤ n) : valF (floatOfInt .f64 m) ≤ valF (floatOfInt .f64 n) := by
  rw [valF_key_le, (i2f_fin m hm).2.1, (i2f_fin n hn).2.1]
  exact keyV_mono (Int.mul_le_mul_of_nonneg_right h (Int.natCast_nonneg _))

theorem sub_ex {x y : Nat} (hx : x < 18446744073709551616) (nx : ¬ nanW x) (hy : finF y) : ∃ z, floatBits .sub .f64 x y = some z := by
  rcases word_cases hx with h | h | h | h
  · exact absurd h nx
  · obtain ⟨z, h1, _⟩ := sub_fin h hy
    exact ⟨z, h1⟩
  · subst h
    show ∃ z, FD.sub _ _ = some z
    unfold Format.sub
    rw [read_inf_pos, read_fin hy]
    exact ⟨_, rfl⟩
  · subst h
    show ∃ z, FD.sub _ _ = some z
    unfold Format.sub
    rw [read_inf_neg, read_fin hy]
    exact ⟨_, rfl⟩
theorem fld_any {x : Nat} (hx : x < 18446744073709551616) : Go.bits .and .u64 ((x / 4503599627370496 : Nat) : Int) 2047 = ((x / 4503599627370496 % 2048 : Nat) : Int) := by
  have h := bits_and_u64_nat (x / 4503599627370496) 2047 (by omega) (by decide)
  rw [show (2047 : Nat) = 2 ^ 11 - 1 by decide, Nat.and_two_pow_sub_one_eq_mod] at h
  exact h
/-- a word's place in the line -/
def plcF (x : Nat) : Int := if x < 9223372036854775808 then (x : Int) else -1 - ((x % 9223372036854775808 : Nat) : Int)
def nanE (x : Nat) : Bool := decide (x / 4503599627370496 % 2048 = 2047) && decide (x % 4503599627370496 ≠ 0)
theorem nanE_iff {x : Nat} (hx : x < 18446744073709551616) : nanE x = true ↔ nanW x := by
  unfold nanE nanW
  simp only [Bool.and_eq_true, decide_eq_true_eq]
  omega
/-- may it be a level? -/
def lvlB (x : Nat) : Bool := decide (1 ≤ x ∧ x ≤ 4607182418800017408)

end Go.Proofs.YtbhghlendbcejaaGreatDoor
