/- Walks: math.IsNaN, Abs, IsInf; verify.Right, Expired; the document's parts, Nan, Order, Right, finite, Expired. Floats, plainly: times one; a float that is whole; the bits of a level; a part against a share, as two words. No program. Walks: math.Frexp, math.Ldexp at a level; level.shifted, level.Exceeds. -/
import Derived.Test.YtbhghlendbcejaaGreatDoorVf
import Derived.Laws.Externs
import Derived.Laws.MathBits
import Derived.Laws.Bits64b
import Derived.Test.YtbhghlendbcejaaGreatDoorShelf
import Derived.Test.YtbhghlendbcejaaGreatDoorLn
import Derived.Deep.QuietTactic
import Derived.BigQuiet
namespace Go.Proofs.YtbhghlendbcejaaGreatDoor
open Go.RowKit
set_option maxRecDepth 100000

theorem nan_of_cut (t : Nat) : nanW ((t % 2) * 2 ^ 63 + 0x7ff0000000000000 + 1 + (t / 2) % (2 ^ 52 - 1)) := by
  unfold nanW
  have h1 := Nat.mod_lt (t / 2) (show 0 < 2 ^ 52 - 1 by decide)
  rcases Nat.mod_two_eq_zero_or_one t with h | h <;> rw [h] <;> omega
/-- a difference that is none: a NaN that the tape says -/
theorem run_sub_none {P : Program} {t : TypeId} {x y : Nat} (h : floatBits .sub .f64 x y = none) (w : World) : ∃ z, nanW z ∧ z < 18446744073709551616 ∧ (binOp .sub t (.float .f64 x) (.float .f64 y)).run P w = .ok (.float .f64 z) w.drew := by
  refine ⟨_, nan_of_cut (w.tape w.drawn (.nanBits .f64 x y)), ?_, ?_⟩
  · have h1 := Nat.mod_lt (w.tape w.drawn (.nanBits .f64 x y) / 2) (show 0 < 2 ^ 52 - 1 by decide)
    rcases Nat.mod_two_eq_zero_or_one (w.tape w.drawn (.nanBits .f64 x y)) with h | h <;> rw [h] <;> omega
  · have h2 : FloatKind.f64.format.sub x y = none := h
    simp [binOp, Op.floatArith, h2, Question.forced, Question.cut]
theorem sub_inf {x : Nat} (h : x = 9218868437227405312 ∨ x = 9223372036854775808 + 9218868437227405312) : floatBits .sub .f64 x x = none := by
  rcases h with rfl | rfl <;> decide +kernel
theorem sub_same {x : Nat} (h : finF x) : ∃ z, floatBits .sub .f64 x x = some z ∧ z < 18446744073709551616 ∧ ¬ nanW z ∧ keyF z = 0 := by
  obtain ⟨z, h1, h2, h3, h4⟩ := sub_fin h h
  refine ⟨z, h1, h2, h3, ?_⟩
  rw [h4, Int.sub_self]
  decide

theorem isNaN_ok (x : Nat) (w : World) : Calls Tryz.prog 39 #[.float .f64 x] w fun e w' => e = .returned (.bool (nanF x)) ∧ w' = w := by
  go_enter Tryz.func39, Tryz.ntmps39
  go_wp2_with fail
  go_ret
  exact ⟨rfl, rfl⟩
theorem bits_run (x : Nat) (w : World) : (callFunc 91 #[.float .f64 x]).run Tryz.prog w = .ok (.value (.int .u64 x)) w := by
  rw [run_callFunc_extern (e := Extern.MathFloatBits.float64bits) Tryz.func91 (by kernel_rfl) (by kernel_rfl) (by kernel_rfl) (by kernel_rfl)]
  rfl
theorem frombits_run (x : Nat) (w : World) : (callFunc 96 #[.int .u64 x]).run Tryz.prog w = .ok (.value (.float .f64 x)) w := by
  rw [run_callFunc_extern (e := Extern.MathFloatBits.float64frombits) Tryz.func96 (by kernel_rfl) (by kernel_rfl) (by kernel_rfl) (by kernel_rfl)]
  rfl
def absF (x : Nat) : Nat := x % 9223372036854775808
def infF (x : Nat) : Bool := ordF (absF x) 9218868437227405311 == some .gt
theorem andNot_sign (x : Nat) (hx : x < 18446744073709551616) : Go.bits .andNot .u64 (x : Int) 9223372036854775808 = ((absF x : Nat) : Int) := by
  have h := u64_andNot_nat x 9223372036854775808 hx (by decide)
  rw [show (18446744073709551615 : Nat) - 9223372036854775808 = 2 ^ 63 - 1 by decide, Nat.and_two_pow_sub_one_eq_mod] at h
  exact h
set_option maxHeartbeats 1000000 in
theorem abs_ok (x : Nat) (w : World) (hx : x < 18446744073709551616) : Calls Tryz.prog 65 #[.float .f64 x] w fun e w' => e = .returned (.float .f64 (absF x)) ∧ w' = w := by
  have b1 := bits_run x; have b2 := frombits_run (absF x); have h := andNot_sign x hx
  go_enter Tryz.func65, Tryz.ntmps65
  go_wp2_with fail
  go_ret
  exact ⟨rfl, rfl⟩
theorem isInf_ok (x : Nat) (w : World) (hx : x < 18446744073709551616) : Calls Tryz.prog 40 #[.float .f64 x, .int .i64 0] w fun e w' => e = .returned (.bool (infF x)) ∧ w' = w := by
  have C := Lib.hid (abs_ok x w hx)
  clear hx
  go_enter Tryz.func40, Tryz.ntmps40
  go_wp2_with fail
  refine C.out.mono ?_
  rintro e w' ⟨rfl, rfl⟩
  go_wp2_with fail
  go_ret
  exact ⟨rfl, rfl⟩
theorem finB_eq {x : Nat} (hx : x < 18446744073709551616) : finB x = !(nanF x || infF x) := by
  have ha : absF x < 18446744073709551616 := by unfold absF; omega
  have h1 := nanF_iff hx
  have h2 : infF x = true ↔ ¬ nanW (absF x) ∧ ¬ nanW 9218868437227405311 ∧ keyF 9218868437227405311 < keyF (absF x) := gtF_iff ha (by decide)
  have h3 := finB_iff hx
  have n1 : ¬ nanW 9218868437227405311 := by unfold nanW; omega
  have k1 : keyF 9218868437227405311 = 9218868437227405311 := by decide
  have k2 : keyF (absF x) = (x % 9223372036854775808 : Nat) := by unfold keyF absF; rw [if_pos (by omega)]
  rw [k1, k2] at h2
  have h4 : finF x ↔ ¬ nanW x ∧ ¬ (¬ nanW (absF x) ∧ ¬ nanW 9218868437227405311 ∧ (9218868437227405311 : Int) < (x % 9223372036854775808 : Nat)) := by
    unfold finF nanW absF
    omega
  rw [Bool.eq_iff_iff, h3, h4, ← h1, ← h2]
  simp
open Ieee

theorem read_big {r : Nat} (h : r < 4503599627370496) : FD.read (r + 1075 * 4503599627370496) = .number false (4503599627370496 + r) 0 := by
  rw [read_pos (by omega)]
  have e1 : mgF (r + 1075 * 4503599627370496) = 4503599627370496 + r := by
    unfold mgF
    rw [if_neg (by omega), Nat.add_mul_mod_self_right, Nat.mod_eq_of_lt h]
  have e2 : plF (r + 1075 * 4503599627370496) = 1074 := by
    unfold plF
    rw [if_neg (by omega), Nat.add_mul_div_right _ _ (by decide), Nat.div_eq_of_lt h]
  rw [e1, e2]
  rfl
theorem decode_read (y : Nat) : FloatKind.f64.decode y = FD.read y := rfl
theorem u64_min : IntKind.u64.min = 0 := by decide +kernel
theorem u64_max : IntKind.u64.max = 18446744073709551615 := by decide +kernel
theorem whole_int {m : Nat} : (Datum.number false m 0).toInt .zero = some (m : Int) := by
  unfold Datum.toInt Datum.integral
  simp [signed, Toward.cut]
theorem read_int {y m : Nat} (e : FD.read y = .number false m 0) : (FloatKind.f64.decode y).toInt .zero = some (m : Int) := by rw [decode_read, e, whole_int]
theorem f2i_of {y m : Nat} (h3 : (0 : Int) ≤ (m : Int) ∧ (m : Int) ≤ 18446744073709551615) (h4 : (FloatKind.f64.decode y).toInt .zero = some (m : Int)) : floatToIntVal .f64 y .u64 = some (m : Int) := by
  unfold floatToIntVal
  rw [h4, u64_min, u64_max]
  exact if_pos h3
theorem f2i_nat {y m : Nat} (h : m < 18446744073709551616) (e : FD.read y = .number false m 0) : floatToIntVal .f64 y .u64 = some (m : Int) := f2i_of (by omega) (read_int e)
/-- a float that is whole, as a number -/
theorem f2i {r : Nat} (h : r < 4503599627370496) : floatToIntVal .f64 (r + 1075 * 4503599627370496) .u64 = some ((4503599627370496 + r : Nat) : Int) := f2i_nat (by omega) (read_big h)
/-- times one -/
theorem mul_one {y : Nat} (h : 53 * 4503599627370496 ≤ y) (h2 : y < 9218868437227405312) : floatBits .mul .f64 4607182418800017408 y = some y := by
  show FD.mul 4607182418800017408 y = some y
  unfold Format.mul
  rw [read_pos (show 4607182418800017408 < 9218868437227405312 by decide), read_pos h2]
  have e3 : mgF 4607182418800017408 = 4503599627370496 := by decide +kernel
  have e4 : plF 4607182418800017408 = 1022 := by decide +kernel
  rw [e3, e4]
  unfold Datum.product
  dsimp only
  have hp : 52 ≤ plF y := by
    unfold plF
    rw [if_neg (by omega)]
    omega
  have e5 : 4503599627370496 * mgF y * 2 ^ (plF y - 52) = valN y := by
    unfold valN
    obtain ⟨m, hm⟩ : ∃ m, mgF y = m := ⟨_, rfl⟩
    obtain ⟨k, hk⟩ : ∃ k, plF y = 52 + k := ⟨plF y - 52, by omega⟩
    have e52 : (2 : Nat) ^ 52 = 4503599627370496 := by decide
    rw [hm, hk, Nat.add_sub_cancel_left, Nat.pow_add, e52, Nat.mul_comm 4503599627370496 m, Nat.mul_assoc]
  have hgoal : FD.nearest (false ^^ false) (4503599627370496 * mgF y) (-1074 + ((1022 : Nat) : Int) + (-1074 + (plF y : Int))) = y := by
    rw [nearest_rung, rungF_V _ _ _ (plF y - 52) (by omega), e5, rungV_val h2]
    rfl
  exact congrArg some hgoal
/-! the bits of a level -/
theorem fld_bits {x : Nat} (hx : x < 9218868437227405312) : Go.bits .and .u64 ((x / 4503599627370496 : Nat) : Int) 2047 = ((x / 4503599627370496 : Nat) : Int) := by
  have h := bits_and_u64_nat (x / 4503599627370496) 2047 (by omega) (by decide)
  rw [show (2047 : Nat) = 2 ^ 11 - 1 by decide, Nat.and_two_pow_sub_one_eq_mod, Nat.mod_eq_of_lt (by omega)] at h
  exact h
theorem and_low {x : Nat} (hx : x < 9223372036854775808) : x &&& (9223372036854775808 + 4503599627370495) = x % 4503599627370496 := by
  have e : (9223372036854775808 + 4503599627370495 : Nat) = 2 ^ 63 ||| (2 ^ 52 - 1) := by decide +kernel
  have e2 : (4503599627370496 : Nat) = 2 ^ 52 := by decide
  apply Nat.eq_of_testBit_eq
  intro i
  rw [e, e2, Nat.testBit_and, Nat.testBit_or, Nat.testBit_two_pow_sub_one, Nat.testBit_two_pow, Nat.testBit_mod_two_pow]
  by_cases h : i = 63
  · subst h
    rw [Nat.testBit_lt_two_pow (show x < 2 ^ 63 by omega)]; simp
  · have h2 : decide (63 = i) = false := decide_eq_false (fun q => h q.symm)
    rw [h2, Bool.false_or, Bool.and_comm]
theorem frac_bits {x : Nat} (hx : x < 9223372036854775808) : Go.bits .andNot .u64 (x : Int) 9218868437227405312 = ((x % 4503599627370496 : Nat) : Int) := by
  have h := u64_andNot_nat x 9218868437227405312 (by omega) (by decide)
  rw [show (18446744073709551615 : Nat) - 9218868437227405312 = 9223372036854775808 + 4503599627370495 by decide, and_low hx] at h
  exact h
theorem or_bits {r k : Nat} (hr : r < 4503599627370496) (hk : k < 2048) : Go.bits .or .u64 (r : Int) ((k * 4503599627370496 : Nat) : Int) = ((r + k * 4503599627370496 : Nat) : Int) := by
  have h := bits_or_u64_nat r (k * 4503599627370496) (by omega) (by omega)
  have e : r ||| (k * 4503599627370496) = r + k * 4503599627370496 := by
    have := Nat.two_pow_add_eq_or_of_lt (i := 52) (b := r) (by omega) k
    rw [Nat.or_comm, show k * 4503599627370496 = 2 ^ 52 * k by rw [Nat.mul_comm], ← this, Nat.add_comm]
  rw [e] at h
  exact h
/-! two words -/
theorem two_words {A B q : Nat} : (decide (B / q < A / q) || decide (A / q = B / q) && decide (B % q < A % q)) = decide (B < A) := by
  rw [Bool.eq_iff_iff]
  simp only [Bool.or_eq_true, Bool.and_eq_true, decide_eq_true_eq]
  have h1 := Nat.div_add_mod A q; have h2 := Nat.div_add_mod B q
  rcases Nat.lt_trichotomy (A / q) (B / q) with h | h | h
  · have : A < B := by
      rcases Nat.eq_zero_or_pos q with hq | hq
      · subst hq; simp at h
      · exact Nat.lt_of_not_le fun hle => absurd (Nat.div_le_div_right (c := q) hle) (by omega)
    omega
  · rw [h] at h1 ⊢
    constructor
    · rintro (h3 | ⟨_, h3⟩) <;> omega
    · intro h3; right; exact ⟨rfl, by omega⟩
  · have : B < A := by
      rcases Nat.eq_zero_or_pos q with hq | hq
      · subst hq; simp at h
      · exact Nat.lt_of_not_le fun hle => absurd (Nat.div_le_div_right (c := q) hle) (by omega)
    constructor
    · intro _; exact this
    · intro _; left; exact h
theorem shr_word (n s : Nat) (hs : s ≤ 64) : n / 2 ^ (64 - s) = n * 2 ^ s / 18446744073709551616 := by
  have e : (18446744073709551616 : Nat) = 2 ^ (64 - s) * 2 ^ s := by rw [← Nat.pow_add, Nat.sub_add_cancel hs]
  rw [e, Nat.mul_div_mul_right _ _ (Nat.two_pow_pos s)]
theorem exc_words {part total : Nat} {x : Nat} (hs : 1075 - x / 4503599627370496 ≤ 64) :
    (decide (total * (4503599627370496 + x % 4503599627370496) / 18446744073709551616 < part / 2 ^ (64 - (1075 - x / 4503599627370496))) || decide (part / 2 ^ (64 - (1075 - x / 4503599627370496)) = total * (4503599627370496 + x % 4503599627370496) / 18446744073709551616) && decide (total * (4503599627370496 + x % 4503599627370496) % 18446744073709551616 < part * 2 ^ (1075 - x / 4503599627370496) % 18446744073709551616)) = excL part total x := by
  rw [shr_word _ _ hs, two_words]
  rfl

theorem num_ords {x : Nat} (h1 : 4503599627370496 ≤ x) (h2 : x < 9218868437227405312) : ltF x 4503599627370496 = false ∧ (ordF x 0 == some Ordering.eq) = false ∧ nanF x = false ∧ infF x = false ∧ absF x = x := by
  have hx : x < 18446744073709551616 := by omega
  have hn : ¬ nanW x := by unfold nanW; omega
  have k : keyF x = x := by unfold keyF; rw [if_pos (by omega)]
  have k0 : keyF 0 = 0 := by decide
  have k1 : keyF 4503599627370496 = 4503599627370496 := by decide
  have ha : absF x = x := by unfold absF; omega
  refine ⟨?_, ?_, ?_, ?_, ha⟩
  · cases h : ltF x 4503599627370496 with
    | false => rfl
    | true => have := (ltF_iff hx (by decide)).1 h; rw [k, k1] at this; omega
  · unfold ordF
    rw [show FloatKind.f64.format.order x 0 = _ from ord_key hx (by decide) hn (by unfold nanW; omega), k, k0]
    have := @cmp_eq (x : Int) 0
    simp only [Option.some_beq_some, this]
    exact decide_eq_false (by omega)
  · cases h : nanF x with
    | false => rfl
    | true => exact absurd ((nanF_iff hx).1 h) hn
  · cases h : infF x with
    | false => rfl
    | true =>
      have h3 : gtF (absF x) 9218868437227405311 = true := h
      have := (gtF_iff (by rw [ha]; exact hx) (by decide)).1 h3
      rw [ha, k, show keyF 9218868437227405311 = 9218868437227405311 by decide] at this
      omega
theorem normalize_ok (x : Nat) (w : World) (h1 : 4503599627370496 ≤ x) (h2 : x < 9218868437227405312) : Calls Tryz.prog 193 #[.float .f64 x] w fun e w' => e = .returned (.tuple #[.float .f64 x, .int .i64 0]) ∧ w' = w := by
  obtain ⟨q1, _, _, _, q5⟩ := num_ords h1 h2
  have C := abs_ok x w (by omega)
  rw [q5] at C
  have C := Lib.hid C
  unfold ltF ordF at q1
  clear q5 h1 h2
  go_enter Tryz.func193, Tryz.ntmps193
  go_wp2_with fail
  refine C.out.mono ?_
  rintro e w' ⟨rfl, rfl⟩
  go_wp2_with fail
  go_ret2
  exact ⟨rfl, rfl⟩
set_option maxHeartbeats 2000000 in
theorem frexp_ok (x E r : Nat) (w : World) (h1 : 4503599627370496 ≤ x) (h2 : x < 9218868437227405312) (hE : x / 4503599627370496 = E) (hr : x % 4503599627370496 = r) :
    Calls Tryz.prog 177 #[.float .f64 x] w fun e w' => e = .returned (.tuple #[.float .f64 ((r + 1022 * 4503599627370496 : Nat)), .int .i64 ((E : Int) - 1022)]) ∧ w' = w := by
  obtain ⟨_, q2, q3, q4, _⟩ := num_ords h1 h2
  have CI := isInf_ok x w (by omega); have CN := isNaN_ok x w
  rw [q4] at CI; rw [q3] at CN
  have CI := Lib.hid CI; have CN := Lib.hid CN
  have CZ := Lib.hid (normalize_ok x w h1 h2)
  have b1 := bits_run x w
  have f1 := fld_bits h2
  have f2 := frac_bits (show x < 9223372036854775808 by omega)
  rw [hE] at f1
  rw [hr] at f2
  have f3 := or_bits (show r < 4503599627370496 by rw [← hr]; exact Nat.mod_lt _ (by decide)) (show 1022 < 2048 by decide)
  have f3 : Go.bits .or .u64 (r : Int) 4602678819172646912 = ((r + 1022 * 4503599627370496 : Nat) : Int) := f3
  obtain ⟨fr, hfr⟩ : ∃ fr, r + 1022 * 4503599627370496 = fr := ⟨_, rfl⟩
  rw [hfr] at f3 ⊢
  have b2 := frombits_run fr w
  have hs : ((x : Nat) : Int) / 4503599627370496 = (E : Int) := by rw [← hE]; rfl
  have hEb : E < 2048 := by omega
  have hw1 := IntWalk.i64_in ((E : Int) - 1023) (by omega)
  have hw2 := IntWalk.i64_in ((E : Int) - 1023 + 1) (by omega)
  have hfin : (E : Int) - 1023 + 1 = (E : Int) - 1022 := by omega
  unfold ordF at q2
  clear h1 h2 hE hr q3 q4 hfr
  go_enter Tryz.func177, Tryz.ntmps177
  go_wp2_with fail
  refine CI.out.mono ?_
  rintro e w' ⟨rfl, rfl⟩
  go_wp2_with fail
  refine CN.out.mono ?_
  rintro e w' ⟨rfl, rfl⟩
  go_wp2_with fail
  refine CZ.out.mono ?_
  rintro e w' ⟨rfl, rfl⟩
  go_wp2_with fail
  go_ret2
  exact ⟨rfl, rfl⟩
theorem Frexp_ok (x E r : Nat) (w : World) (h1 : 4503599627370496 ≤ x) (h2 : x < 9218868437227405312) (hE : x / 4503599627370496 = E) (hr : x % 4503599627370496 = r) :
    Calls Tryz.prog 149 #[.float .f64 x] w fun e w' => e = .returned (.tuple #[.float .f64 ((r + 1022 * 4503599627370496 : Nat)), .int .i64 ((E : Int) - 1022)]) ∧ w' = w := by
  have C := frexp_ok x E r w h1 h2 hE hr
  obtain ⟨fr, hfr⟩ : ∃ fr, r + 1022 * 4503599627370496 = fr := ⟨_, rfl⟩
  obtain ⟨k, hk⟩ : ∃ k : Int, (E : Int) - 1022 = k := ⟨_, rfl⟩
  rw [hfr, hk] at C ⊢
  have C := Lib.hid C
  clear h1 h2 hE hr hfr hk
  go_enter Tryz.func149, Tryz.ntmps149
  go_wp2_with fail
  refine C.out.mono ?_
  rintro e w' ⟨rfl, rfl⟩
  go_wp2_with fail
  go_ret2
  exact ⟨rfl, rfl⟩
set_option maxHeartbeats 4000000 in
theorem ldexp_ok (r : Nat) (w : World) (h : r < 4503599627370496) :
    Calls Tryz.prog 179 #[.float .f64 ((r + 1022 * 4503599627370496 : Nat)), .int .i64 53] w fun e w' => e = .returned (.float .f64 ((r + 1075 * 4503599627370496 : Nat))) ∧ w' = w := by
  have hx1 : 4503599627370496 ≤ r + 1022 * 4503599627370496 := by omega
  have hx2 : r + 1022 * 4503599627370496 < 9218868437227405312 := by omega
  have f1 := fld_bits hx2
  have f2 := frac_bits (show r + 1022 * 4503599627370496 < 9223372036854775808 by omega)
  have f3 := or_bits h (show 1075 < 2048 by decide)
  have f3 : Go.bits .or .u64 (r : Int) 4841369599423283200 = ((r + 1075 * 4503599627370496 : Nat) : Int) := f3
  have hm := mul_one (y := r + 1075 * 4503599627370496) (by omega) (by omega)
  have hmul := fun w => run_float_arith (P := Tryz.prog) w .mul 41 .f64 _ _ _ hm
  have e1 : (r + 1022 * 4503599627370496) / 4503599627370496 = 1022 := by omega
  have e2 : (r + 1022 * 4503599627370496) % 4503599627370496 = r := by omega
  rw [e1] at f1
  rw [e2] at f2
  obtain ⟨_, q2, q3, q4, _⟩ := num_ords hx1 hx2
  have CI := isInf_ok (r + 1022 * 4503599627370496) w (by omega); have CN := isNaN_ok (r + 1022 * 4503599627370496) w
  rw [q4] at CI; rw [q3] at CN
  have CZ := normalize_ok _ w hx1 hx2
  obtain ⟨x, hx⟩ : ∃ x, r + 1022 * 4503599627370496 = x := ⟨_, rfl⟩
  obtain ⟨y, hy⟩ : ∃ y, r + 1075 * 4503599627370496 = y := ⟨_, rfl⟩
  rw [hx] at CI CN CZ f2 q2 ⊢
  rw [hy] at f3 hmul ⊢
  have CI := Lib.hid CI; have CN := Lib.hid CN; have CZ := Lib.hid CZ
  have b1 := bits_run x w
  have b2 := frombits_run y w
  have hs : ((x : Nat) : Int) / 4503599627370496 = 1022 := by omega
  have f1 : Go.bits .and .i64 (1022 : Int) 2047 = 1022 := by decide +kernel
  unfold ordF at q2
  clear hx1 hx2 e1 e2 q3 q4 hx hy hm h
  go_enter Tryz.func179, Tryz.ntmps179
  go_wp2_with fail
  refine CI.out.mono ?_
  rintro e w' ⟨rfl, rfl⟩
  go_wp2_with fail
  refine CN.out.mono ?_
  rintro e w' ⟨rfl, rfl⟩
  go_wp2_with fail
  refine CZ.out.mono ?_
  rintro e w' ⟨rfl, rfl⟩
  go_wp2_with fail
  go_ret
  exact ⟨rfl, rfl⟩
theorem Ldexp_ok (r : Nat) (w : World) (h : r < 4503599627370496) :
    Calls Tryz.prog 150 #[.float .f64 ((r + 1022 * 4503599627370496 : Nat)), .int .i64 53] w fun e w' => e = .returned (.float .f64 ((r + 1075 * 4503599627370496 : Nat))) ∧ w' = w := by
  have C := ldexp_ok r w h
  obtain ⟨x, hx⟩ : ∃ x, r + 1022 * 4503599627370496 = x := ⟨_, rfl⟩
  obtain ⟨y, hy⟩ : ∃ y, r + 1075 * 4503599627370496 = y := ⟨_, rfl⟩
  rw [hx, hy] at C
  rw [hx, hy]
  have C := Lib.hid C
  clear h hx hy
  go_enter Tryz.func150, Tryz.ntmps150
  go_wp2_with fail
  refine C.out.mono ?_
  rintro e w' ⟨rfl, rfl⟩
  go_wp2_with fail
  go_ret
  exact ⟨rfl, rfl⟩
theorem u64_wrap (n : Int) : IntKind.u64.wrap n = n % 18446744073709551616 := by
  unfold IntKind.wrap
  simp [IntKind.bits, IntKind.signed]
theorem lenAux_le : ∀ f x, Lib.bitLenAux f x ≤ f
  | 0, x => by simp [Lib.bitLenAux]
  | f + 1, x => by
    have := lenAux_le f (x / 2)
    unfold Lib.bitLenAux
    split <;> omega
theorem bitLen_64 (x : Nat) : Lib.bitLen x ≤ 64 := lenAux_le 64 x
set_option maxHeartbeats 2000000 in
/-- a part times a power of two, as two words -/
theorem shifted_ok (n s : Nat) (w : World) (hn : n < 9223372036854775808) (h1 : 52 ≤ s) (h2 : s ≤ 54) :
    Calls Tryz.prog 152 #[.int .u64 n, .int .i64 s] w fun e w' => e = .returned (.tuple #[.int .u64 ((n * 2 ^ s / 18446744073709551616 : Nat) : Int), .int .u64 ((n * 2 ^ s % 18446744073709551616 : Nat) : Int)]) ∧ w.grownBy w' none := by
  have CB := Len64_ok (n : Int) w (by omega) (by omega)
  have hb := bitLen_64 n
  have e0 : ((n : Int)).toNat = n := Int.toNat_natCast n
  rw [e0] at CB
  obtain ⟨L, hL⟩ : ∃ L, Lib.bitLen n = L := ⟨_, rfl⟩
  rw [hL] at CB hb
  have CB := Lib.hid CB
  clear hL e0
  obtain ⟨up, hup⟩ : ∃ up, n * 2 ^ s / 18446744073709551616 = up := ⟨_, rfl⟩
  obtain ⟨dn, hdn⟩ : ∃ dn, n * 2 ^ s % 18446744073709551616 = dn := ⟨_, rfl⟩
  rw [hup, hdn]
  have t1 : ∀ k : Int, k ≤ 54 → ¬ (128 < (L : Int) + k) := by intro k hk; omega
  have T1 := Lib.hid t1
  clear t1
  rcases (show s = 52 ∨ s = 53 ∨ s = 54 by omega) with rfl | rfl | rfl
  · have u1 : (n : Int) / 4096 = (up : Int) := by omega
    have u2 : IntKind.u64.wrap ((n : Int) * 4503599627370496) = (dn : Int) := by rw [u64_wrap]; omega
    have t1 := T1.out 52 (by omega)
    clear h1 h2 hup hdn
    go_enter Tryz.func152, Tryz.ntmps152
    go_wp2_with fail
    refine CB.out.mono ?_
    rintro e w' ⟨rfl, rfl⟩
    go_wp2_with fail
    go_quiet (fail)
    go_wp2_with fail
    go_ret2
    exact ⟨rfl, dr_grown _ _⟩
  · have u1 : (n : Int) / 2048 = (up : Int) := by omega
    have u2 : IntKind.u64.wrap ((n : Int) * 9007199254740992) = (dn : Int) := by rw [u64_wrap]; omega
    have t1 := T1.out 53 (by omega)
    clear h1 h2 hup hdn
    go_enter Tryz.func152, Tryz.ntmps152
    go_wp2_with fail
    refine CB.out.mono ?_
    rintro e w' ⟨rfl, rfl⟩
    go_wp2_with fail
    go_quiet (fail)
    go_wp2_with fail
    go_ret2
    exact ⟨rfl, dr_grown _ _⟩
  · have u1 : (n : Int) / 1024 = (up : Int) := by omega
    have u2 : IntKind.u64.wrap ((n : Int) * 18014398509481984) = (dn : Int) := by rw [u64_wrap]; omega
    have t1 := T1.out 54 (by omega)
    clear h1 h2 hup hdn
    go_enter Tryz.func152, Tryz.ntmps152
    go_wp2_with fail
    refine CB.out.mono ?_
    rintro e w' ⟨rfl, rfl⟩
    go_wp2_with fail
    go_quiet (fail)
    go_wp2_with fail
    go_ret2
    exact ⟨rfl, dr_grown _ _⟩

theorem two_cases {a b c d : Nat} : (decide (b < a) || decide (a = b) && decide (d < c)) = if b < a then true else if a = b then decide (d < c) else false := by
  by_cases h : b < a
  · simp [h]
  · by_cases h2 : a = b
    · simp [h2]
    · simp [h, h2]
theorem exc_wordsE {P T x E r : Nat} (hE : x / 4503599627370496 = E) (hr : x % 4503599627370496 = r) : excL (P : Int) (T : Int) x =
    if T * (4503599627370496 + r) / 18446744073709551616 < P * 2 ^ (1075 - E) / 18446744073709551616 then true
    else if P * 2 ^ (1075 - E) / 18446744073709551616 = T * (4503599627370496 + r) / 18446744073709551616 then decide (T * (4503599627370496 + r) % 18446744073709551616 < P * 2 ^ (1075 - E) % 18446744073709551616) else false := by
  unfold excL
  rw [hE, hr, Int.toNat_natCast, Int.toNat_natCast, ← two_cases, two_words]
set_option maxHeartbeats 4000000 in
/-- a part against a share, at a level between a third and one -/
theorem Exceeds_ok (P T x : Nat) (w : World) (hP : P < 9223372036854775808) (hT : T ≤ 1125899906842624) (h1 : 4599676419421066581 ≤ x) (h2 : x ≤ 4607182418800017408) :
    Calls Tryz.prog 115 #[.int .i64 P, .int .i64 T, .float .f64 x] w fun e w' => e = .returned (.tuple #[.bool (excL P T x), .int .i64 0]) ∧ w.grownBy w' none := by
  obtain ⟨E, hE⟩ : ∃ E, x / 4503599627370496 = E := ⟨_, rfl⟩
  obtain ⟨r, hr⟩ : ∃ r, x % 4503599627370496 = r := ⟨_, rfl⟩
  have hrb : r < 4503599627370496 := by omega
  obtain ⟨s, hs⟩ : ∃ s, 1075 - E = s := ⟨_, rfl⟩
  have hs1 : 52 ≤ s := by omega
  have hs2 : s ≤ 54 := by omega
  have CF := Frexp_ok x E r w (by omega) (by omega) hE hr
  have CL := Ldexp_ok r w hrb
  have CM := Tryz.bits_Mul64 T (4503599627370496 + r) (by omega) (by omega) w
  have CS := shifted_ok P s w hP hs1 hs2
  have hconv := fun w => run_convert_float_int (P := Tryz.prog) w 41 111 .f64 .u64 (r + 1075 * 4503599627370496) _ (by rw [Tryz.underlying41]; rfl) Tryz.underlying111 (f2i hrb)
  have hx := exc_wordsE (P := P) (T := T) hE hr
  rw [hs] at hx
  have k1 : gtF x 0 = true := (gtF_iff (by omega) (by decide)).2 (by
    refine ⟨by unfold nanW; omega, by unfold nanW; omega, ?_⟩
    rw [show keyF 0 = 0 by decide]
    unfold keyF; rw [if_pos (by omega)]; omega)
  have k2 : leF x 4607182418800017408 = true := (leF_iff (by omega) (by decide)).2 (by
    refine ⟨by unfold nanW; omega, by unfold nanW; omega, ?_⟩
    rw [show keyF 4607182418800017408 = 4607182418800017408 by decide]
    unfold keyF; rw [if_pos (by omega)]; omega)
  unfold gtF ordF at k1
  unfold leF ordF at k2
  obtain ⟨fr, hfr⟩ : ∃ fr, r + 1022 * 4503599627370496 = fr := ⟨_, rfl⟩
  obtain ⟨y, hy⟩ : ∃ y, r + 1075 * 4503599627370496 = y := ⟨_, rfl⟩
  rw [hfr] at CF CL; rw [hy] at CL hconv
  obtain ⟨m, hm⟩ : ∃ m, 4503599627370496 + r = m := ⟨_, rfl⟩
  rw [hm] at CM hx hconv
  obtain ⟨k, hk⟩ : ∃ k : Int, (E : Int) - 1022 = k := ⟨_, rfl⟩
  rw [hk] at CF
  have hsk : (53 : Int) - k = (s : Int) := by omega
  have hw := IntWalk.i64_in ((53 : Int) - k) (by omega)
  rw [hsk] at hw
  obtain ⟨u1, hu1⟩ : ∃ z, P * 2 ^ s / 18446744073709551616 = z := ⟨_, rfl⟩
  obtain ⟨v1, hv1⟩ : ∃ z, P * 2 ^ s % 18446744073709551616 = z := ⟨_, rfl⟩
  obtain ⟨u2, hu2⟩ : ∃ z, T * m / 18446744073709551616 = z := ⟨_, rfl⟩
  obtain ⟨v2, hv2⟩ : ∃ z, T * m % 18446744073709551616 = z := ⟨_, rfl⟩
  rw [hu1, hv1] at CS; rw [hu2, hv2] at CM; rw [hu1, hv1, hu2, hv2] at hx
  rw [hx]
  have CF := Lib.hid CF; have CL := Lib.hid CL; have CM := Lib.hid CM; have CS := Lib.hid CS
  clear hE hr hs hx hfr hy hm hk hu1 hv1 hu2 hv2 h1 h2 hrb
  have hT2 : (T : Int) ≤ 1125899906842624 := by omega
  by_cases c1 : u2 < u1
  · rw [if_pos c1]
    have d1 : decide (u2 < u1) = true := decide_eq_true c1
    clear c1
    go_enter Tryz.func115, Tryz.ntmps115
    go_wp2_with fail
    refine CF.out.mono ?_
    rintro e w' ⟨rfl, rfl⟩
    go_wp2_with fail
    refine CL.out.mono ?_
    rintro e w' ⟨rfl, rfl⟩
    go_wp2_with fail
    refine CM.out.mono ?_
    rintro e w' ⟨rfl, rfl⟩
    go_wp2_with fail
    refine CS.out.mono ?_
    rintro e w2 ⟨rfl, g⟩
    have G := Lib.hid g
    clear g
    go_wp2_with fail
    go_ret2
    exact ⟨rfl, G.out⟩
  rw [if_neg c1]
  have d1 : decide (u2 < u1) = false := decide_eq_false c1
  clear c1
  by_cases c2 : u1 = u2
  · rw [if_pos c2]
    subst c2
    go_enter Tryz.func115, Tryz.ntmps115
    go_wp2_with fail
    refine CF.out.mono ?_
    rintro e w' ⟨rfl, rfl⟩
    go_wp2_with fail
    refine CL.out.mono ?_
    rintro e w' ⟨rfl, rfl⟩
    go_wp2_with fail
    refine CM.out.mono ?_
    rintro e w' ⟨rfl, rfl⟩
    go_wp2_with fail
    refine CS.out.mono ?_
    rintro e w2 ⟨rfl, g⟩
    have G := Lib.hid g
    clear g
    go_wp2_with fail
    go_ret2
    exact ⟨rfl, G.out⟩
  · rw [if_neg c2]
    have d2 : ((u1 : Int) == (u2 : Int)) = false := by rw [beq_eq_false_iff_ne]; omega
    clear c2
    go_enter Tryz.func115, Tryz.ntmps115
    go_wp2_with fail
    refine CF.out.mono ?_
    rintro e w' ⟨rfl, rfl⟩
    go_wp2_with fail
    refine CL.out.mono ?_
    rintro e w' ⟨rfl, rfl⟩
    go_wp2_with fail
    refine CM.out.mono ?_
    rintro e w' ⟨rfl, rfl⟩
    go_wp2_with fail
    refine CS.out.mono ?_
    rintro e w2 ⟨rfl, g⟩
    have G := Lib.hid g
    clear g
    go_wp2_with fail
    go_ret2
    exact ⟨rfl, G.out⟩

end Go.Proofs.YtbhghlendbcejaaGreatDoor
