/- Plain law: powers modulo the prime, a signature's law, a long division. Walks of bits.Div64 at the two moduli; schnorr.times, schnorr.Power. Walks: schnorr.times, schnorr.Power. Walks: schnorr.word, number, Key, challenge. Walks: schnorr.challenge, Key, Sign, Verify. Walks: schnorr.Sign, Verify. Walk: schnorr.Verify. -/
import Derived.Test.YtcbkehnlgpcelaaGreatDoorBase
import Derived.Test.YtcbkehnlgpcelaaGreatDoorShelf
import Derived.Deep.QuietTactic
import Derived.BigQuiet
import Derived.Deep.Cut
import Derived.Deep.CutRange
import Derived.Test.YtcbkehnlgpcelaaGreatDoorHsh
import Derived.Test.YtcbkehnlgpcelaaGreatDoorRead
import Derived.Deep.RegionHeld3
namespace Go.Proofs.YtcbkehnlgpcelaaGreatDoor
set_option maxRecDepth 100000

/-- the prime, and the order -/
def pP : Nat := 2305843009213693951
def pQ : Nat := 2305843009213693950
/-- a power -/
def pw (b e : Nat) : Nat := b ^ e % pP
theorem pw_lt (b e : Nat) : pw b e < pP := Nat.mod_lt _ (by unfold pP; omega)
theorem pw_zero (b : Nat) : pw b 0 = 1 := rfl
theorem pow_mod_mod (b e m : Nat) : (b % m) ^ e % m = b ^ e % m := (Nat.pow_mod b e m).symm
theorem pw_base (b e : Nat) : pw (b % pP) e = pw b e := pow_mod_mod b e pP
theorem pw_add (b d e : Nat) : pw b (d + e) = pw b d * pw b e % pP := by
  unfold pw; rw [Nat.pow_add, Nat.mul_mod]
theorem pw_mul (b d e : Nat) : pw b (d * e) = pw (pw b d) e := by
  unfold pw; rw [Nat.pow_mul, Nat.pow_mod]
/-- by squaring, from the right -/
theorem pw_half (n b e : Nat) : n * b ^ e % pP = ((if e % 2 = 1 then n * b % pP else n) * (b * b % pP) ^ (e / 2)) % pP := by
  have h2 : b ^ e = (b * b) ^ (e / 2) * b ^ (e % 2) := by
    rw [← Nat.pow_two, ← Nat.pow_mul, ← Nat.pow_add, Nat.div_add_mod]
  have h3 : (b * b) ^ (e / 2) % pP = (b * b % pP) ^ (e / 2) % pP := Nat.pow_mod _ _ _
  generalize (b * b) ^ (e / 2) = x at *
  generalize (b * b % pP) ^ (e / 2) = y at *
  rw [h2]
  split
  · rename_i h
    rw [h, Nat.pow_one]
    rw [Nat.mul_mod (n * b % pP), Nat.mod_mod, ← h3, ← Nat.mul_mod, Nat.mul_assoc, Nat.mul_comm b x]
  · rename_i h
    rw [show e % 2 = 0 by omega, Nat.pow_zero, Nat.mul_one, Nat.mul_mod, h3, ← Nat.mul_mod]
/-- from the left -/
theorem pw_bit (b e k : Nat) : pw b (e / 2 ^ k) = if e / 2 ^ k % 2 = 1 then pw b (e / 2 ^ (k + 1)) * pw b (e / 2 ^ (k + 1)) % pP * (b % pP) % pP else pw b (e / 2 ^ (k + 1)) * pw b (e / 2 ^ (k + 1)) % pP := by
  have h : e / 2 ^ (k + 1) = e / 2 ^ k / 2 := by rw [Nat.pow_succ, Nat.div_div_eq_div_mul]
  rw [h]
  generalize e / 2 ^ k = d
  have h2 : d = d / 2 + d / 2 + d % 2 := by omega
  split
  · rename_i h1
    conv => lhs; rw [h2, h1, pw_add, pw_add]
    unfold pw
    rw [Nat.pow_one]
  · rename_i h1
    conv => lhs; rw [h2, show d % 2 = 0 by omega, Nat.add_zero, pw_add]
theorem pw_big (b e : Nat) (h : e < 2 ^ 64) : pw b (e / 2 ^ 64) = 1 := by rw [Nat.div_eq_of_lt h]; rfl
/-- a product, bit by bit -/
theorem mulm_bit (a b m k : Nat) : a * (b / 2 ^ k) % m = if b / 2 ^ k % 2 = 1 then (2 * (a * (b / 2 ^ (k + 1)) % m) % m + a) % m else 2 * (a * (b / 2 ^ (k + 1)) % m) % m := by
  have h : b / 2 ^ (k + 1) = b / 2 ^ k / 2 := by rw [Nat.pow_succ, Nat.div_div_eq_div_mul]
  rw [h]
  generalize b / 2 ^ k = d
  have e0 : a * d = 2 * (a * (d / 2)) + a * (d % 2) := by
    rw [Nat.mul_left_comm, ← Nat.mul_add, Nat.div_add_mod]
  rw [e0]
  split
  · rename_i h1
    rw [h1, Nat.mul_one, Nat.add_mod (2 * (a * (d / 2) % m) % m), Nat.mod_mod, Nat.mul_mod 2 (a * (d / 2) % m), Nat.mod_mod, ← Nat.mul_mod, ← Nat.add_mod]
  · rename_i h1
    rw [show d % 2 = 0 by omega, Nat.mul_zero, Nat.add_zero, Nat.mul_mod 2 (a * (d / 2) % m), Nat.mod_mod, ← Nat.mul_mod]
/-- reckoned fast -/
def fpow : Nat → Nat → Nat → Nat → Nat
  | 0, n, _, _ => n
  | f + 1, n, b, e => fpow f (if e % 2 = 1 then n * b % pP else n) (b * b % pP) (e / 2)
theorem fpow_ok : ∀ (f n b e : Nat), n < pP → e < 2 ^ f → fpow f n b e = n * b ^ e % pP := by
  intro f
  induction f with
  | zero => intro n b e hn he; obtain rfl : e = 0 := by omega
            simp [fpow, Nat.mod_eq_of_lt hn]
  | succ f ih =>
    intro n b e hn he
    unfold fpow
    rw [ih _ _ _ (by split; exact Nat.mod_lt _ (by unfold pP; omega); exact hn) (by rw [Nat.pow_succ] at he; omega), ← pw_half]
theorem pw_fast (b e : Nat) (he : e < 2 ^ 64) : pw b e = fpow 64 1 b e := by
  rw [fpow_ok 64 1 b e (by unfold pP; omega) he, Nat.one_mul]; rfl
theorem gen_order : pw 37 pQ = 1 := by
  rw [pw_fast 37 pQ (by unfold pQ; omega)]
  decide +kernel
theorem pw_mod_order (k : Nat) : pw 37 (k % pQ) = pw 37 k := by
  conv => rhs; rw [← Nat.div_add_mod k pQ, pw_add, pw_mul, gen_order]
  unfold pw
  rw [Nat.one_pow]
  show 37 ^ (k % pQ) % pP = (1 % pP) * (37 ^ (k % pQ) % pP) % pP
  rw [show 1 % pP = 1 from rfl, Nat.one_mul, Nat.mod_mod]
/-- what is signed is well signed -/
theorem schnorr_right (x k c : Nat) : pw 37 ((k + c * x % pQ) % pQ) = pw 37 k * pw (pw 37 x) c % pP := by
  rw [pw_mod_order, ← pw_mul, Nat.mul_comm x c]
  rw [pw_add, pw_mod_order]

/-- one digit of a long division: the guess, and what is over -/
def KInv (u yn1 yn0 u1 q r : Nat) : Prop := q * yn1 + r = u ∧ (u * 4294967296 + u1) / (yn1 * 4294967296 + yn0) ≤ q

theorem knuth_q' (u y u1 : Nat) (hy : u < y) (h1 : u1 < 4294967296) : (u * 4294967296 + u1) / y < 4294967296 := by
  rw [Nat.div_lt_iff_lt_mul (by omega)]
  have : (u + 1) * 4294967296 ≤ y * 4294967296 := Nat.mul_le_mul_right _ (by omega)
  omega
theorem knuth_q (u yn1 yn0 u1 : Nat) (hy : u < yn1 * 4294967296 + yn0) (h1 : u1 < 4294967296) :
    (u * 4294967296 + u1) / (yn1 * 4294967296 + yn0) < 4294967296 := knuth_q' u _ u1 hy h1

theorem knuth_start (u yn1 yn0 u1 : Nat) (h0 : 0 < yn1) (h1 : u1 < 4294967296) : KInv u yn1 yn0 u1 (u / yn1) (u % yn1) := by
  refine ⟨Nat.div_add_mod' u yn1, ?_⟩
  rw [Nat.div_le_iff_le_mul_add_pred (by omega)]
  have e : u = yn1 * (u / yn1) + u % yn1 := (Nat.div_add_mod u yn1).symm
  have hr := Nat.mod_lt u h0
  generalize u / yn1 = q at *
  generalize u % yn1 = r at *
  have e2 : (yn1 * 4294967296 + yn0) * q = yn1 * q * 4294967296 + yn0 * q := by
    rw [Nat.add_mul, Nat.mul_right_comm]
  rw [e2]
  generalize yn1 * q = a at *
  generalize yn0 * q = b at *
  omega

/-- too much: a step -/
theorem knuth_step (u yn1 yn0 u1 q r : Nat) (hi : KInv u yn1 yn0 u1 q r) (hy : u < yn1 * 4294967296 + yn0) (h1 : u1 < 4294967296)
    (h : 4294967296 ≤ q ∨ 4294967296 * r + u1 < q * yn0) : KInv u yn1 yn0 u1 (q - 1) (r + yn1) ∧ 0 < q := by
  obtain ⟨e, hq⟩ := hi
  have hq0 : 0 < q := by
    rcases h with h | h
    · omega
    · rcases Nat.eq_zero_or_pos q with rfl | h0
      · simp at h
      · exact h0
  have hlt := knuth_q u yn1 yn0 u1 hy h1
  refine ⟨⟨?_, ?_⟩, hq0⟩
  · obtain ⟨p, rfl⟩ : ∃ p, q = p + 1 := ⟨q - 1, by omega⟩
    rw [Nat.add_mul] at e
    simp only [Nat.add_sub_cancel]
    omega
  · rcases h with h | h
    · omega
    · have : (u * 4294967296 + u1) / (yn1 * 4294967296 + yn0) < q := by
        rw [Nat.div_lt_iff_lt_mul (by omega), ← e]
        have e2 : q * (yn1 * 4294967296 + yn0) = q * yn1 * 4294967296 + q * yn0 := by rw [Nat.mul_add, Nat.mul_assoc]
        rw [e2]
        generalize q * yn1 = a at *
        generalize q * yn0 = b at *
        omega
      omega
/-- enough -/
theorem knuth_end (u yn1 yn0 u1 q r : Nat) (hi : KInv u yn1 yn0 u1 q r) (hy0 : yn0 < 4294967296) (hy : u < yn1 * 4294967296 + yn0)
    (h : 4294967296 ≤ r ∨ (q < 4294967296 ∧ q * yn0 ≤ 4294967296 * r + u1)) : q = (u * 4294967296 + u1) / (yn1 * 4294967296 + yn0) := by
  obtain ⟨e, hq⟩ := hi
  refine Nat.le_antisymm ?_ hq
  rw [Nat.le_div_iff_mul_le (by omega)]
  have e2 : q * (yn1 * 4294967296 + yn0) = q * yn1 * 4294967296 + q * yn0 := by rw [Nat.mul_add, Nat.mul_assoc]
  rw [e2, ← e]
  have h3 : q * yn0 ≤ 4294967296 * r + u1 := by
    rcases h with h | h
    · have hql : q < 4294967296 := by
        rcases Nat.lt_or_ge q 4294967296 with h4 | h4
        · exact h4
        · have := Nat.mul_le_mul_right yn1 h4
          omega
      have := Nat.mul_le_mul (show q ≤ 4294967295 by omega) (show yn0 ≤ 4294967295 by omega)
      omega
    · exact h.2
  generalize q * yn1 = a at *
  generalize q * yn0 = b at *
  omega
theorem knuth_bound (u yn1 yn0 u1 q r : Nat) (hi : KInv u yn1 yn0 u1 q r) (hn : 2147483648 ≤ yn1) (hy0 : yn0 < 4294967296) (hy : u < yn1 * 4294967296 + yn0) : q < 4294967299 := by
  obtain ⟨e, _⟩ := hi
  rcases Nat.lt_or_ge q 4294967299 with h4 | h4
  · exact h4
  · have := Nat.mul_le_mul_right yn1 h4
    omega
/-- what is left over -/
theorem knuth_rest (N y : Nat) (_hy : y < 18446744073709551616) (hy0 : 0 < y) : ((N : Int) - (N / y : Nat) * (y : Int)) = ((N % y : Nat) : Int) ∧ N % y < y := by
  refine ⟨?_, Nat.mod_lt _ hy0⟩
  have := Nat.div_add_mod N y
  have e : ((N / y : Nat) : Int) * (y : Int) = ((y * (N / y) : Nat) : Int) := by rw [Nat.mul_comm]; simp
  rw [e]
  generalize y * (N / y) = a at *
  omega
/-- two digits -/
theorem div_two (N y s hi lo : Nat) (_hs : N = hi * 18446744073709551616 + lo) (k : Nat) (hk : s = 2 ^ k) : N * s / (y * s) = N / y ∧ N * s % (y * s) / s = N % y := by
  have h0 : 0 < s := hk ▸ Nat.two_pow_pos k
  refine ⟨Nat.mul_div_mul_right _ _ h0, ?_⟩
  rw [Nat.mul_mod_mul_right, Nat.mul_div_cancel _ h0]
theorem div_digits (M y u0 : Nat) :
    (M * 4294967296 + u0) / y = M / y * 4294967296 + (M % y * 4294967296 + u0) / y ∧
    (M * 4294967296 + u0) % y = (M % y * 4294967296 + u0) % y := by
  rcases Nat.eq_zero_or_pos y with rfl | hy
  · simp
  have e := Nat.div_add_mod M y
  generalize hq : M / y = q at *
  generalize hr : M % y = r at *
  have e3 : M * 4294967296 + u0 = (r * 4294967296 + u0) + y * (q * 4294967296) := by
    rw [← e, Nat.add_mul, Nat.mul_assoc]; omega
  rw [e3, Nat.add_mul_div_left _ _ hy, Nat.add_mul_mod_self_left]
  exact ⟨by omega, rfl⟩
open Go.RowKit

set_option maxHeartbeats 400000 in
theorem lz_p (w : World) : Calls Tryz.prog 152 #[.int .u64 2305843009213693951] w fun e w' => e = .returned (.int .i64 3) ∧ w' = w := by
  go_enter Tryz.func152, Tryz.ntmps152
  go_wp2
  go_ret
  exact ⟨by kernel_rfl, rfl⟩
set_option maxHeartbeats 400000 in
theorem lz_q (w : World) : Calls Tryz.prog 152 #[.int .u64 2305843009213693950] w fun e w' => e = .returned (.int .i64 3) ∧ w' = w := by
  go_enter Tryz.func152, Tryz.ntmps152
  go_wp2
  go_ret
  exact ⟨by kernel_rfl, rfl⟩

theorem u64_in (n : Int) (h0 : 0 ≤ n) (h1 : n < 18446744073709551616) : IntKind.u64.wrap n = n := by
  simp [IntKind.wrap, IntKind.signed, IntKind.bits]; omega
set_option maxHeartbeats 1000000 in
theorem div64_zero (lo y : Nat) (w : World) (hl : lo < 18446744073709551616) (hy : 0 < y) (hy2 : y < 18446744073709551616) :
    Calls Tryz.prog 126 #[.int .u64 0, .int .u64 (lo : Int), .int .u64 (y : Int)] w fun e w' => e = .returned (.tuple #[.int .u64 ((lo / y : Nat) : Int), .int .u64 ((lo % y : Nat) : Int)]) ∧ ∃ n, w' = w.drewN n := by
  have h1 : (y : Int) ≠ 0 := by omega
  have h2 : ¬ ((y : Int) ≤ 0) := by omega
  have e1 : IntKind.u64.wrap ((lo : Int) / (y : Int)) = ((lo / y : Nat) : Int) := by
    rw [← Int.natCast_ediv]; exact u64_in _ (Int.natCast_nonneg _) (by have := Nat.div_le_self lo y; omega)
  have e2 : (lo : Int) % (y : Int) = ((lo % y : Nat) : Int) := by simp
  go_enter Tryz.func126, Tryz.ntmps126
  go_wp2
  go_quiet (fail)
  go_wp2
  go_ret2
  exact ⟨by go_num, _, rfl⟩

theorem u64_mod (n : Nat) : IntKind.u64.wrap (n : Int) = ((n % 18446744073709551616 : Nat) : Int) := by
  simp [IntKind.wrap, IntKind.signed, IntKind.bits]
theorem or_div3 (hi lo : Nat) (hl : lo < 18446744073709551616) (hh : hi < 2305843009213693952) :
    bits .or .u64 ((hi : Int) * 8) ((lo : Int) / 2305843009213693952) = ((hi * 8 + lo / 2305843009213693952 : Nat) : Int) := by
  have h7 : lo / 2305843009213693952 < 2 ^ 3 := by omega
  have e1 : ((hi : Int) * 8) = ((hi * 2 ^ 3 : Nat) : Int) := by simp
  have e2 : ((lo : Int) / 2305843009213693952) = ((lo / 2305843009213693952 : Nat) : Int) := by simp
  rw [e1, e2]
  have h8 : hi * 2 ^ 3 ||| lo / 2305843009213693952 = hi * 2 ^ 3 + lo / 2305843009213693952 := by
    rw [Nat.mul_comm, Nat.two_pow_add_eq_or_of_lt h7]
  rw [bits_or_u64_nat _ _ (by omega) (by omega), h8]

theorem wrap_sub (A c X M : Nat) (e : X + M = A + c) (hM : M < 18446744073709551616) :
    IntKind.u64.wrap (((A % 18446744073709551616 + c) % 18446744073709551616 : Nat) - ((X % 18446744073709551616 : Nat) : Int)) = (M : Int) := by
  rw [IntKind.wrap_u64]
  omega
/-- what is left over behind a digit, as the words reckon it -/
theorem fin1 (u c x y : Nat) (hx : x = (u * 4294967296 + c) / (y * 8)) (hy : 0 < y) (hy2 : y < 2305843009213693952) :
    ∃ U1 U2 U3 M : Nat, IntKind.u64.wrap ((u : Int) * 4294967296) = (U1 : Int) ∧ IntKind.u64.wrap ((U1 : Int) + (c : Int)) = (U2 : Int) ∧ IntKind.u64.wrap ((x : Int) * ((y : Int) * 8)) = (U3 : Int) ∧
      IntKind.u64.wrap ((U2 : Int) - (U3 : Int)) = (M : Int) ∧ M = (u * 4294967296 + c) % (y * 8) := by
  have e := Nat.div_add_mod (u * 4294967296 + c) (y * 8)
  have hm := Nat.mod_lt (u * 4294967296 + c) (show 0 < y * 8 by omega)
  rw [← hx] at e
  refine ⟨u * 4294967296 % 18446744073709551616, (u * 4294967296 % 18446744073709551616 + c) % 18446744073709551616, x * (y * 8) % 18446744073709551616, (u * 4294967296 + c) % (y * 8), ?_, ?_, ?_, ?_, rfl⟩
  · rw [show ((u : Int) * 4294967296) = ((u * 4294967296 : Nat) : Int) by simp, u64_mod]
  · rw [← Int.natCast_add, u64_mod]
  · rw [show ((x : Int) * ((y : Int) * 8)) = ((x * (y * 8) : Nat) : Int) by simp, u64_mod]
  · exact wrap_sub (u * 4294967296) c (x * (y * 8)) _ (by rw [Nat.mul_comm x]; exact e) (by omega)
/-- the guess of a digit, as the words reckon it -/
theorem fin2 (M a b d : Nat) (ha : 0 < a) (ha2 : a < 4294967296) (hM : M < 18446744073709551616) (hd : d < 4294967296) :
    ∃ q p r : Nat, IntKind.u64.wrap ((M : Int) / (a : Int)) = (q : Int) ∧ IntKind.u64.wrap ((q : Int) * (a : Int)) = (p : Int) ∧ IntKind.u64.wrap ((M : Int) - (p : Int)) = (r : Int) ∧ KInv M a b d q r ∧ r < 4294967296 := by
  have hs := knuth_start M a b d ha hd
  have hm := Nat.mod_lt M ha
  have e := hs.1
  have hq := Nat.div_le_self M a
  refine ⟨M / a, M / a * a, M % a, ?_, ?_, ?_, hs, by omega⟩
  · rw [← Int.natCast_ediv]; exact u64_in _ (Int.natCast_nonneg _) (by omega)
  · rw [← Int.natCast_mul]; exact u64_in _ (Int.natCast_nonneg _) (by omega)
  · rw [show ((M : Int) - ((M / a * a : Nat) : Int)) = ((M % a : Nat) : Int) by omega]; exact u64_in _ (Int.natCast_nonneg _) (by omega)
/-- both digits -/
theorem fin3 (hi lo y u c d M x z L : Nat) (hl : lo < 18446744073709551616) (hh : hi < y) (hu : hi * 8 + lo / 2305843009213693952 = u) (hL : lo * 8 % 18446744073709551616 = L) (hc : L / 4294967296 = c) (hd : L % 4294967296 = d)
    (hx : x = (u * 4294967296 + c) / (y * 8)) (hM : M = (u * 4294967296 + c) % (y * 8)) (hz : z = (M * 4294967296 + d) / (y * 8)) :
    x * 4294967296 + z = (hi * 18446744073709551616 + lo) / y ∧ (M * 4294967296 + d) % (y * 8) / 8 = (hi * 18446744073709551616 + lo) % y ∧ x * 4294967296 + z < 18446744073709551616 := by
  have hN : (hi * 18446744073709551616 + lo) * 8 = (u * 4294967296 + c) * 4294967296 + d := by omega
  obtain ⟨e1, e2⟩ := div_two (hi * 18446744073709551616 + lo) y 8 hi lo rfl 3 rfl
  obtain ⟨e3, e4⟩ := div_digits (u * 4294967296 + c) (y * 8) d
  rw [hN, e3, ← hx, ← hM, ← hz] at e1
  rw [hN, e4, ← hM] at e2
  refine ⟨e1, e2, ?_⟩
  rw [e1]
  rw [Nat.div_lt_iff_lt_mul (by omega)]
  have := Nat.mul_le_mul_right 18446744073709551616 (show hi + 1 ≤ y by omega)
  rw [Nat.mul_comm 18446744073709551616]
  omega

def KRel (u a b c : Nat) (x z : Value) : Prop := ∃ q r : Nat, KInv u a b c q r ∧ r < 4294967296 ∧ x = .int .u64 (q : Int) ∧ z = .int .u64 (r : Int)

set_option maxHeartbeats 4000000 in
theorem div64_ok (hi lo y : Nat) (w : World) (hl : lo < 18446744073709551616) (hh : 0 < hi) (hy : hi < y) (hy1 : 1152921504606846976 ≤ y) (hy2 : y < 2305843009213693952)
    (hz : ∀ w, Calls Tryz.prog 152 #[.int .u64 (y : Int)] w fun e w' => e = .returned (.int .i64 3) ∧ w' = w) :
    Calls Tryz.prog 126 #[.int .u64 (hi : Int), .int .u64 (lo : Int), .int .u64 (y : Int)] w fun e w' => e = .returned (.tuple #[.int .u64 (((hi * 18446744073709551616 + lo) / y : Nat) : Int), .int .u64 (((hi * 18446744073709551616 + lo) % y : Nat) : Int)]) ∧ ∃ n, w' = w.drewN n := by
  have h0 : ((hi : Int) == 0) = false := by simp; omega
  have h1 : ((y : Int) == 0) = false := by simp; omega
  have h2 : decide ((y : Int) ≤ (hi : Int)) = false := by simp; omega
  obtain ⟨u, hu⟩ : ∃ u, hi * 8 + lo / 2305843009213693952 = u := ⟨_, rfl⟩
  obtain ⟨a, ha⟩ : ∃ a, y * 8 / 4294967296 = a := ⟨_, rfl⟩
  obtain ⟨b, hb⟩ : ∃ b, y * 8 % 4294967296 = b := ⟨_, rfl⟩
  obtain ⟨L, hL⟩ : ∃ L, lo * 8 % 18446744073709551616 = L := ⟨_, rfl⟩
  obtain ⟨c, hc⟩ : ∃ c, L / 4294967296 = c := ⟨_, rfl⟩
  obtain ⟨d, hd⟩ : ∃ d, L % 4294967296 = d := ⟨_, rfl⟩
  have k1 : bits .or .u64 ((hi : Int) * 8) ((lo : Int) / 2305843009213693952) = (u : Int) := by rw [or_div3 hi lo hl (by omega), hu]
  have k2 : ((y : Int) * 8 / 4294967296) = (a : Int) := by omega
  have k3 : bits .and .u64 ((y : Int) * 8) 4294967295 = (b : Int) := by
    rw [show ((y : Int) * 8) = ((y * 8 : Nat) : Int) by simp, Mul64.maskN _ (by omega), hb]
  have k4 : IntKind.u64.wrap ((lo : Int) * 8) = (L : Int) := by rw [show ((lo : Int) * 8) = ((lo * 8 : Nat) : Int) by simp, u64_mod, hL]
  have k5 : ((L : Int) / 4294967296) = (c : Int) := by omega
  have k6 : bits .and .u64 (L : Int) 4294967295 = (d : Int) := by rw [Mul64.maskN _ (by omega), hd]
  have r1 : a < 4294967296 := by omega
  have r2 : 2147483648 ≤ a := by omega
  have r3 : u < y * 8 := by omega
  have C1 := Lib.hid (show c < 4294967296 by omega)
  have D1 := Lib.hid (show d < 4294967296 by omega)
  have BB := Lib.hid (show b < 4294967296 by omega)
  have AB := Lib.hid (show a * 4294967296 + b = y * 8 by omega)
  obtain ⟨q0, qa, r0, k7, k8, k9, ks, ks2⟩ := fin2 u a b c (by omega) r1 (by omega) C1.out
  have KS := Lib.hid (show KRel u a b c (.int .u64 q0) (.int .u64 r0) from ⟨q0, r0, ks, ks2, rfl, rfl⟩)
  have HZ := Lib.hid hz
  have Hu := Lib.hid hu; have Ha := Lib.hid ha; have Hb := Lib.hid hb; have HL := Lib.hid hL; have Hc := Lib.hid hc; have Hd := Lib.hid hd
  have Hl := Lib.hid hl; have Hy := Lib.hid hy; have Hy1 := Lib.hid hy1; have Hy2 := Lib.hid hy2
  have B1 := Lib.hid r1; have B2 := Lib.hid r2; have B3 := Lib.hid (show u < a * 4294967296 + b by have := AB.out; omega)
  have A0 : ¬ a = 0 := by omega
  clear hz hu ha hb hL hc hd ks ks2
  go_enter Tryz.func126, Tryz.ntmps126
  go_wp2_with (go_at_call 152; refine (HZ.out _).mono ?_; rintro e w' ⟨rfl, rfl⟩)
  clear k1 k2 k3 k4 k5 k6 k7 k8 k9 hl hy hy1 hy2 r1 r2 r3
  go_loop [15, 16] (fun x z => KRel u a b c x z) (fun x _ => (intOf x).toNat)
  case atStart => exact KS.out
  case round =>
    obtain ⟨q, r, hk, hr, rfl, rfl⟩ := hrel
    have HK := Lib.hid hk; have HR := Lib.hid hr
    have QB := Lib.hid (knuth_bound u a b c q r hk B2.out BB.out B3.out)
    cases g1 : decide ((4294967296 : Int) ≤ (q : Int)) with
    | true =>
      obtain ⟨hk2, hq1⟩ := knuth_step u a b c q r hk B3.out C1.out (Or.inl (by simp at g1; omega))
      obtain ⟨q', hq'⟩ : ∃ x, q - 1 = x := ⟨_, rfl⟩
      obtain ⟨r', hr'⟩ : ∃ x, r + a = x := ⟨_, rfl⟩
      rw [hq', hr'] at hk2
      have s1 : IntKind.u64.wrap ((q : Int) - 1) = (q' : Int) := by
        rw [show ((q : Int) - 1) = (q' : Int) by omega]; exact u64_in _ (Int.natCast_nonneg _) (by have := QB.out; omega)
      have s2 : IntKind.u64.wrap ((r : Int) + (a : Int)) = (r' : Int) := by
        rw [show ((r : Int) + (a : Int)) = (r' : Int) by omega]; exact u64_in _ (Int.natCast_nonneg _) (by have := B1.out; omega)
      have HK2 := Lib.hid hk2
      have M1 := Lib.hid (show q' < q by omega)
      cases g2 : decide ((4294967296 : Int) ≤ (r' : Int)) with
      | true =>
        have HX := Lib.hid (knuth_end u a b c q' r' hk2 BB.out B3.out (Or.inl (by simp at g2; omega)))
        clear hk2 hq' hr' hq1 hk hr
        rw [AB.out] at HX
        obtain ⟨U1, U2, U3, M, m1, m2, m3, m4, m5⟩ := fin1 u c q' y HX.out (by have := Hy1.out; omega) Hy2.out
        have HQX := Lib.hid HX.out
        have HM := Lib.hid m5
        have B4 := Lib.hid (show M < a * 4294967296 + b by rw [AB.out, m5]; exact Nat.mod_lt _ (by have := Hy1.out; omega))
        obtain ⟨qn, qp, rn, m6, m7, m8, ks, ks2⟩ := fin2 M a b d (by have := B2.out; omega) B1.out (by have := B4.out; have := B1.out; have := BB.out; omega) D1.out
        have KS2 := Lib.hid (show KRel M a b d (.int .u64 qn) (.int .u64 rn) from ⟨qn, rn, ks, ks2, rfl, rfl⟩)
        clear m5 ks ks2 HX
        go_wp2
        go_loop [18, 16] (fun x z => KRel M a b d x z) (fun x _ => (intOf x).toNat)
        case atStart => exact KS2.out
        case round =>
          obtain ⟨p, t, hk, hr, rfl, rfl⟩ := hrel
          have HK := Lib.hid hk; have HR := Lib.hid hr
          have QB := Lib.hid (knuth_bound M a b d p t hk B2.out BB.out B4.out)
          cases g1 : decide ((4294967296 : Int) ≤ (p : Int)) with
          | true =>
            obtain ⟨hk2, hq1⟩ := knuth_step M a b d p t hk B4.out D1.out (Or.inl (by simp at g1; omega))
            obtain ⟨p', hq'⟩ : ∃ x, p - 1 = x := ⟨_, rfl⟩
            obtain ⟨t', hr'⟩ : ∃ x, t + a = x := ⟨_, rfl⟩
            rw [hq', hr'] at hk2
            have s1 : IntKind.u64.wrap ((p : Int) - 1) = (p' : Int) := by
              rw [show ((p : Int) - 1) = (p' : Int) by omega]; exact u64_in _ (Int.natCast_nonneg _) (by have := QB.out; omega)
            have s2 : IntKind.u64.wrap ((t : Int) + (a : Int)) = (t' : Int) := by
              rw [show ((t : Int) + (a : Int)) = (t' : Int) by omega]; exact u64_in _ (Int.natCast_nonneg _) (by have := B1.out; omega)
            have HK2 := Lib.hid hk2
            have M1 := Lib.hid (show p' < p by omega)
            cases g2 : decide ((4294967296 : Int) ≤ (t' : Int)) with
            | true =>
              have HX2 := Lib.hid (knuth_end M a b d p' t' hk2 BB.out B4.out (Or.inl (by simp at g2; omega)))
              clear hk2 hq' hr' hq1 hk hr
              rw [AB.out] at HX2
              obtain ⟨V1, V2, V3, R, v1, v2, v3, v4, v5⟩ := fin1 M d p' y HX2.out (by have := Hy1.out; omega) Hy2.out
              obtain ⟨f1, f2, f3⟩ := fin3 hi lo y u c d M q' p' L Hl.out Hy.out Hu.out HL.out Hc.out Hd.out HQX.out HM.out HX2.out
              obtain ⟨W1, hW1⟩ : ∃ n, q' * 4294967296 = n := ⟨_, rfl⟩
              have v6 : IntKind.u64.wrap ((q' : Int) * 4294967296) = (W1 : Int) := by
                rw [show ((q' : Int) * 4294967296) = (W1 : Int) by omega]; exact u64_in _ (Int.natCast_nonneg _) (by omega)
              have v7 : IntKind.u64.wrap ((W1 : Int) + (p' : Int)) = (((hi * 18446744073709551616 + lo) / y : Nat) : Int) := by
                rw [← f1, hW1, ← Int.natCast_add]; exact u64_in _ (Int.natCast_nonneg _) (by omega)
              have v8 : (R : Int) / 8 = (((hi * 18446744073709551616 + lo) % y : Nat) : Int) := by rw [← f2, v5]; simp
              have F := Lib.hid v7; have F2 := Lib.hid v8
              clear v5 f1 f2 f3 hW1 v7 v8
              go_wp2
              go_ret2
              exact ⟨by rw [F.out, F2.out]; rfl, 0, rfl⟩
            | false =>
              have HR2 := Lib.hid (show t' < 4294967296 by simp at g2; omega)
              clear hk2 hq' hr' hq1 hk hr
              go_wp2
              exact ⟨⟨p', t', HK2.out, HR2.out, rfl, rfl⟩, by simp [intOf]; exact M1.out⟩
          | false =>
            have HQ := Lib.hid (show p < 4294967296 by simp at g1; omega)
            have hqb := Nat.mul_le_mul (show p ≤ 4294967295 by have := HQ.out; omega) (show b ≤ 4294967295 by have := BB.out; omega)
            obtain ⟨X, hX⟩ : ∃ X, p * b = X := ⟨_, rfl⟩
            obtain ⟨Y, hY⟩ : ∃ Y, 4294967296 * t = Y := ⟨_, rfl⟩
            obtain ⟨Z, hZ⟩ : ∃ Z, Y + d = Z := ⟨_, rfl⟩
            have e1 : IntKind.u64.wrap ((p : Int) * (b : Int)) = (X : Int) := by
              rw [← Int.natCast_mul, hX]; exact u64_in _ (Int.natCast_nonneg _) (by omega)
            have e2 : IntKind.u64.wrap (4294967296 * (t : Int)) = (Y : Int) := by
              rw [show (4294967296 * (t : Int)) = (Y : Int) by omega]; exact u64_in _ (Int.natCast_nonneg _) (by omega)
            have e3 : IntKind.u64.wrap ((Y : Int) + (d : Int)) = (Z : Int) := by
              rw [show ((Y : Int) + (d : Int)) = (Z : Int) by omega]; exact u64_in _ (Int.natCast_nonneg _) (by have := D1.out; omega)
            cases g3 : decide (Z < X) with
            | true =>
              have g3' : Z < X := by simpa using g3
              have g4 : decide (Z < X) = true := g3
              obtain ⟨hk2, hq1⟩ := knuth_step M a b d p t hk B4.out D1.out (Or.inr (by omega))
              clear hqb hX hY hZ g3 g3'
              obtain ⟨p', hq'⟩ : ∃ x, p - 1 = x := ⟨_, rfl⟩
              obtain ⟨t', hr'⟩ : ∃ x, t + a = x := ⟨_, rfl⟩
              rw [hq', hr'] at hk2
              have s1 : IntKind.u64.wrap ((p : Int) - 1) = (p' : Int) := by
                rw [show ((p : Int) - 1) = (p' : Int) by omega]; exact u64_in _ (Int.natCast_nonneg _) (by have := QB.out; omega)
              have s2 : IntKind.u64.wrap ((t : Int) + (a : Int)) = (t' : Int) := by
                rw [show ((t : Int) + (a : Int)) = (t' : Int) by omega]; exact u64_in _ (Int.natCast_nonneg _) (by have := B1.out; omega)
              have HK2 := Lib.hid hk2
              have M1 := Lib.hid (show p' < p by omega)
              cases g2 : decide ((4294967296 : Int) ≤ (t' : Int)) with
              | true =>
                have HX2 := Lib.hid (knuth_end M a b d p' t' hk2 BB.out B4.out (Or.inl (by simp at g2; omega)))
                clear hk2 hq' hr' hq1 hk hr
                rw [AB.out] at HX2
                obtain ⟨V1, V2, V3, R, v1, v2, v3, v4, v5⟩ := fin1 M d p' y HX2.out (by have := Hy1.out; omega) Hy2.out
                obtain ⟨f1, f2, f3⟩ := fin3 hi lo y u c d M q' p' L Hl.out Hy.out Hu.out HL.out Hc.out Hd.out HQX.out HM.out HX2.out
                obtain ⟨W1, hW1⟩ : ∃ n, q' * 4294967296 = n := ⟨_, rfl⟩
                have v6 : IntKind.u64.wrap ((q' : Int) * 4294967296) = (W1 : Int) := by
                  rw [show ((q' : Int) * 4294967296) = (W1 : Int) by omega]; exact u64_in _ (Int.natCast_nonneg _) (by omega)
                have v7 : IntKind.u64.wrap ((W1 : Int) + (p' : Int)) = (((hi * 18446744073709551616 + lo) / y : Nat) : Int) := by
                  rw [← f1, hW1, ← Int.natCast_add]; exact u64_in _ (Int.natCast_nonneg _) (by omega)
                have v8 : (R : Int) / 8 = (((hi * 18446744073709551616 + lo) % y : Nat) : Int) := by rw [← f2, v5]; simp
                have F := Lib.hid v7; have F2 := Lib.hid v8
                clear v5 f1 f2 f3 hW1 v7 v8
                go_wp2
                go_ret2
                exact ⟨by rw [F.out, F2.out]; rfl, 0, rfl⟩
              | false =>
                have HR2 := Lib.hid (show t' < 4294967296 by simp at g2; omega)
                clear hk2 hq' hr' hq1 hk hr
                go_wp2
                exact ⟨⟨p', t', HK2.out, HR2.out, rfl, rfl⟩, by simp [intOf]; exact M1.out⟩
            | false =>
              have g3' : X ≤ Z := by simpa using g3
              have g4 : decide (Z < X) = false := g3
              have HX2 := Lib.hid (knuth_end M a b d p t hk BB.out B4.out (Or.inr ⟨HQ.out, by omega⟩))
              clear hqb hX hY hZ g3 g3' hk hr
              rw [AB.out] at HX2
              obtain ⟨V1, V2, V3, R, v1, v2, v3, v4, v5⟩ := fin1 M d p y HX2.out (by have := Hy1.out; omega) Hy2.out
              obtain ⟨f1, f2, f3⟩ := fin3 hi lo y u c d M q' p L Hl.out Hy.out Hu.out HL.out Hc.out Hd.out HQX.out HM.out HX2.out
              obtain ⟨W1, hW1⟩ : ∃ n, q' * 4294967296 = n := ⟨_, rfl⟩
              have v6 : IntKind.u64.wrap ((q' : Int) * 4294967296) = (W1 : Int) := by
                rw [show ((q' : Int) * 4294967296) = (W1 : Int) by omega]; exact u64_in _ (Int.natCast_nonneg _) (by omega)
              have v7 : IntKind.u64.wrap ((W1 : Int) + (p : Int)) = (((hi * 18446744073709551616 + lo) / y : Nat) : Int) := by
                rw [← f1, hW1, ← Int.natCast_add]; exact u64_in _ (Int.natCast_nonneg _) (by omega)
              have v8 : (R : Int) / 8 = (((hi * 18446744073709551616 + lo) % y : Nat) : Int) := by rw [← f2, v5]; simp
              have F := Lib.hid v7; have F2 := Lib.hid v8
              clear v5 f1 f2 f3 hW1 v7 v8
              go_wp2
              go_ret2
              exact ⟨by rw [F.out, F2.out]; rfl, 0, rfl⟩

      | false =>
        have HR2 := Lib.hid (show r' < 4294967296 by simp at g2; omega)
        clear hk2 hq' hr' hq1 hk hr
        go_wp2
        exact ⟨⟨q', r', HK2.out, HR2.out, rfl, rfl⟩, by simp [intOf]; exact M1.out⟩
    | false =>
      have HQ := Lib.hid (show q < 4294967296 by simp at g1; omega)
      have hqb := Nat.mul_le_mul (show q ≤ 4294967295 by have := HQ.out; omega) (show b ≤ 4294967295 by have := BB.out; omega)
      obtain ⟨X, hX⟩ : ∃ X, q * b = X := ⟨_, rfl⟩
      obtain ⟨Y, hY⟩ : ∃ Y, 4294967296 * r = Y := ⟨_, rfl⟩
      obtain ⟨Z, hZ⟩ : ∃ Z, Y + c = Z := ⟨_, rfl⟩
      have e1 : IntKind.u64.wrap ((q : Int) * (b : Int)) = (X : Int) := by
        rw [← Int.natCast_mul, hX]; exact u64_in _ (Int.natCast_nonneg _) (by omega)
      have e2 : IntKind.u64.wrap (4294967296 * (r : Int)) = (Y : Int) := by
        rw [show (4294967296 * (r : Int)) = (Y : Int) by omega]; exact u64_in _ (Int.natCast_nonneg _) (by omega)
      have e3 : IntKind.u64.wrap ((Y : Int) + (c : Int)) = (Z : Int) := by
        rw [show ((Y : Int) + (c : Int)) = (Z : Int) by omega]; exact u64_in _ (Int.natCast_nonneg _) (by have := C1.out; omega)
      cases g3 : decide (Z < X) with
      | true =>
        have g3' : Z < X := by simpa using g3
        have g4 : decide (Z < X) = true := g3
        obtain ⟨hk2, hq1⟩ := knuth_step u a b c q r hk B3.out C1.out (Or.inr (by omega))
        clear hqb hX hY hZ g3 g3'
        obtain ⟨q', hq'⟩ : ∃ x, q - 1 = x := ⟨_, rfl⟩
        obtain ⟨r', hr'⟩ : ∃ x, r + a = x := ⟨_, rfl⟩
        rw [hq', hr'] at hk2
        have s1 : IntKind.u64.wrap ((q : Int) - 1) = (q' : Int) := by
          rw [show ((q : Int) - 1) = (q' : Int) by omega]; exact u64_in _ (Int.natCast_nonneg _) (by have := QB.out; omega)
        have s2 : IntKind.u64.wrap ((r : Int) + (a : Int)) = (r' : Int) := by
          rw [show ((r : Int) + (a : Int)) = (r' : Int) by omega]; exact u64_in _ (Int.natCast_nonneg _) (by have := B1.out; omega)
        have HK2 := Lib.hid hk2
        have M1 := Lib.hid (show q' < q by omega)
        cases g2 : decide ((4294967296 : Int) ≤ (r' : Int)) with
        | true =>
          have HX := Lib.hid (knuth_end u a b c q' r' hk2 BB.out B3.out (Or.inl (by simp at g2; omega)))
          clear hk2 hq' hr' hq1 hk hr
          rw [AB.out] at HX
          obtain ⟨U1, U2, U3, M, m1, m2, m3, m4, m5⟩ := fin1 u c q' y HX.out (by have := Hy1.out; omega) Hy2.out
          have HQX := Lib.hid HX.out
          have HM := Lib.hid m5
          have B4 := Lib.hid (show M < a * 4294967296 + b by rw [AB.out, m5]; exact Nat.mod_lt _ (by have := Hy1.out; omega))
          obtain ⟨qn, qp, rn, m6, m7, m8, ks, ks2⟩ := fin2 M a b d (by have := B2.out; omega) B1.out (by have := B4.out; have := B1.out; have := BB.out; omega) D1.out
          have KS2 := Lib.hid (show KRel M a b d (.int .u64 qn) (.int .u64 rn) from ⟨qn, rn, ks, ks2, rfl, rfl⟩)
          clear m5 ks ks2 HX
          go_wp2
          go_loop [18, 16] (fun x z => KRel M a b d x z) (fun x _ => (intOf x).toNat)
          case atStart => exact KS2.out
          case round =>
            obtain ⟨p, t, hk, hr, rfl, rfl⟩ := hrel
            have HK := Lib.hid hk; have HR := Lib.hid hr
            have QB := Lib.hid (knuth_bound M a b d p t hk B2.out BB.out B4.out)
            cases g1 : decide ((4294967296 : Int) ≤ (p : Int)) with
            | true =>
              obtain ⟨hk2, hq1⟩ := knuth_step M a b d p t hk B4.out D1.out (Or.inl (by simp at g1; omega))
              obtain ⟨p', hq'⟩ : ∃ x, p - 1 = x := ⟨_, rfl⟩
              obtain ⟨t', hr'⟩ : ∃ x, t + a = x := ⟨_, rfl⟩
              rw [hq', hr'] at hk2
              have s1 : IntKind.u64.wrap ((p : Int) - 1) = (p' : Int) := by
                rw [show ((p : Int) - 1) = (p' : Int) by omega]; exact u64_in _ (Int.natCast_nonneg _) (by have := QB.out; omega)
              have s2 : IntKind.u64.wrap ((t : Int) + (a : Int)) = (t' : Int) := by
                rw [show ((t : Int) + (a : Int)) = (t' : Int) by omega]; exact u64_in _ (Int.natCast_nonneg _) (by have := B1.out; omega)
              have HK2 := Lib.hid hk2
              have M1 := Lib.hid (show p' < p by omega)
              cases g2 : decide ((4294967296 : Int) ≤ (t' : Int)) with
              | true =>
                have HX2 := Lib.hid (knuth_end M a b d p' t' hk2 BB.out B4.out (Or.inl (by simp at g2; omega)))
                clear hk2 hq' hr' hq1 hk hr
                rw [AB.out] at HX2
                obtain ⟨V1, V2, V3, R, v1, v2, v3, v4, v5⟩ := fin1 M d p' y HX2.out (by have := Hy1.out; omega) Hy2.out
                obtain ⟨f1, f2, f3⟩ := fin3 hi lo y u c d M q' p' L Hl.out Hy.out Hu.out HL.out Hc.out Hd.out HQX.out HM.out HX2.out
                obtain ⟨W1, hW1⟩ : ∃ n, q' * 4294967296 = n := ⟨_, rfl⟩
                have v6 : IntKind.u64.wrap ((q' : Int) * 4294967296) = (W1 : Int) := by
                  rw [show ((q' : Int) * 4294967296) = (W1 : Int) by omega]; exact u64_in _ (Int.natCast_nonneg _) (by omega)
                have v7 : IntKind.u64.wrap ((W1 : Int) + (p' : Int)) = (((hi * 18446744073709551616 + lo) / y : Nat) : Int) := by
                  rw [← f1, hW1, ← Int.natCast_add]; exact u64_in _ (Int.natCast_nonneg _) (by omega)
                have v8 : (R : Int) / 8 = (((hi * 18446744073709551616 + lo) % y : Nat) : Int) := by rw [← f2, v5]; simp
                have F := Lib.hid v7; have F2 := Lib.hid v8
                clear v5 f1 f2 f3 hW1 v7 v8
                go_wp2
                go_ret2
                exact ⟨by rw [F.out, F2.out]; rfl, 0, rfl⟩
              | false =>
                have HR2 := Lib.hid (show t' < 4294967296 by simp at g2; omega)
                clear hk2 hq' hr' hq1 hk hr
                go_wp2
                exact ⟨⟨p', t', HK2.out, HR2.out, rfl, rfl⟩, by simp [intOf]; exact M1.out⟩
            | false =>
              have HQ := Lib.hid (show p < 4294967296 by simp at g1; omega)
              have hqb := Nat.mul_le_mul (show p ≤ 4294967295 by have := HQ.out; omega) (show b ≤ 4294967295 by have := BB.out; omega)
              obtain ⟨X, hX⟩ : ∃ X, p * b = X := ⟨_, rfl⟩
              obtain ⟨Y, hY⟩ : ∃ Y, 4294967296 * t = Y := ⟨_, rfl⟩
              obtain ⟨Z, hZ⟩ : ∃ Z, Y + d = Z := ⟨_, rfl⟩
              have e1 : IntKind.u64.wrap ((p : Int) * (b : Int)) = (X : Int) := by
                rw [← Int.natCast_mul, hX]; exact u64_in _ (Int.natCast_nonneg _) (by omega)
              have e2 : IntKind.u64.wrap (4294967296 * (t : Int)) = (Y : Int) := by
                rw [show (4294967296 * (t : Int)) = (Y : Int) by omega]; exact u64_in _ (Int.natCast_nonneg _) (by omega)
              have e3 : IntKind.u64.wrap ((Y : Int) + (d : Int)) = (Z : Int) := by
                rw [show ((Y : Int) + (d : Int)) = (Z : Int) by omega]; exact u64_in _ (Int.natCast_nonneg _) (by have := D1.out; omega)
              cases g3 : decide (Z < X) with
              | true =>
                have g3' : Z < X := by simpa using g3
                have g4 : decide (Z < X) = true := g3
                obtain ⟨hk2, hq1⟩ := knuth_step M a b d p t hk B4.out D1.out (Or.inr (by omega))
                clear hqb hX hY hZ g3 g3'
                obtain ⟨p', hq'⟩ : ∃ x, p - 1 = x := ⟨_, rfl⟩
                obtain ⟨t', hr'⟩ : ∃ x, t + a = x := ⟨_, rfl⟩
                rw [hq', hr'] at hk2
                have s1 : IntKind.u64.wrap ((p : Int) - 1) = (p' : Int) := by
                  rw [show ((p : Int) - 1) = (p' : Int) by omega]; exact u64_in _ (Int.natCast_nonneg _) (by have := QB.out; omega)
                have s2 : IntKind.u64.wrap ((t : Int) + (a : Int)) = (t' : Int) := by
                  rw [show ((t : Int) + (a : Int)) = (t' : Int) by omega]; exact u64_in _ (Int.natCast_nonneg _) (by have := B1.out; omega)
                have HK2 := Lib.hid hk2
                have M1 := Lib.hid (show p' < p by omega)
                cases g2 : decide ((4294967296 : Int) ≤ (t' : Int)) with
                | true =>
                  have HX2 := Lib.hid (knuth_end M a b d p' t' hk2 BB.out B4.out (Or.inl (by simp at g2; omega)))
                  clear hk2 hq' hr' hq1 hk hr
                  rw [AB.out] at HX2
                  obtain ⟨V1, V2, V3, R, v1, v2, v3, v4, v5⟩ := fin1 M d p' y HX2.out (by have := Hy1.out; omega) Hy2.out
                  obtain ⟨f1, f2, f3⟩ := fin3 hi lo y u c d M q' p' L Hl.out Hy.out Hu.out HL.out Hc.out Hd.out HQX.out HM.out HX2.out
                  obtain ⟨W1, hW1⟩ : ∃ n, q' * 4294967296 = n := ⟨_, rfl⟩
                  have v6 : IntKind.u64.wrap ((q' : Int) * 4294967296) = (W1 : Int) := by
                    rw [show ((q' : Int) * 4294967296) = (W1 : Int) by omega]; exact u64_in _ (Int.natCast_nonneg _) (by omega)
                  have v7 : IntKind.u64.wrap ((W1 : Int) + (p' : Int)) = (((hi * 18446744073709551616 + lo) / y : Nat) : Int) := by
                    rw [← f1, hW1, ← Int.natCast_add]; exact u64_in _ (Int.natCast_nonneg _) (by omega)
                  have v8 : (R : Int) / 8 = (((hi * 18446744073709551616 + lo) % y : Nat) : Int) := by rw [← f2, v5]; simp
                  have F := Lib.hid v7; have F2 := Lib.hid v8
                  clear v5 f1 f2 f3 hW1 v7 v8
                  go_wp2
                  go_ret2
                  exact ⟨by rw [F.out, F2.out]; rfl, 0, rfl⟩
                | false =>
                  have HR2 := Lib.hid (show t' < 4294967296 by simp at g2; omega)
                  clear hk2 hq' hr' hq1 hk hr
                  go_wp2
                  exact ⟨⟨p', t', HK2.out, HR2.out, rfl, rfl⟩, by simp [intOf]; exact M1.out⟩
              | false =>
                have g3' : X ≤ Z := by simpa using g3
                have g4 : decide (Z < X) = false := g3
                have HX2 := Lib.hid (knuth_end M a b d p t hk BB.out B4.out (Or.inr ⟨HQ.out, by omega⟩))
                clear hqb hX hY hZ g3 g3' hk hr
                rw [AB.out] at HX2
                obtain ⟨V1, V2, V3, R, v1, v2, v3, v4, v5⟩ := fin1 M d p y HX2.out (by have := Hy1.out; omega) Hy2.out
                obtain ⟨f1, f2, f3⟩ := fin3 hi lo y u c d M q' p L Hl.out Hy.out Hu.out HL.out Hc.out Hd.out HQX.out HM.out HX2.out
                obtain ⟨W1, hW1⟩ : ∃ n, q' * 4294967296 = n := ⟨_, rfl⟩
                have v6 : IntKind.u64.wrap ((q' : Int) * 4294967296) = (W1 : Int) := by
                  rw [show ((q' : Int) * 4294967296) = (W1 : Int) by omega]; exact u64_in _ (Int.natCast_nonneg _) (by omega)
                have v7 : IntKind.u64.wrap ((W1 : Int) + (p : Int)) = (((hi * 18446744073709551616 + lo) / y : Nat) : Int) := by
                  rw [← f1, hW1, ← Int.natCast_add]; exact u64_in _ (Int.natCast_nonneg _) (by omega)
                have v8 : (R : Int) / 8 = (((hi * 18446744073709551616 + lo) % y : Nat) : Int) := by rw [← f2, v5]; simp
                have F := Lib.hid v7; have F2 := Lib.hid v8
                clear v5 f1 f2 f3 hW1 v7 v8
                go_wp2
                go_ret2
                exact ⟨by rw [F.out, F2.out]; rfl, 0, rfl⟩

        | false =>
          have HR2 := Lib.hid (show r' < 4294967296 by simp at g2; omega)
          clear hk2 hq' hr' hq1 hk hr
          go_wp2
          exact ⟨⟨q', r', HK2.out, HR2.out, rfl, rfl⟩, by simp [intOf]; exact M1.out⟩
      | false =>
        have g3' : X ≤ Z := by simpa using g3
        have g4 : decide (Z < X) = false := g3
        have HX := Lib.hid (knuth_end u a b c q r hk BB.out B3.out (Or.inr ⟨HQ.out, by omega⟩))
        clear hqb hX hY hZ g3 g3' hk hr
        rw [AB.out] at HX
        obtain ⟨U1, U2, U3, M, m1, m2, m3, m4, m5⟩ := fin1 u c q y HX.out (by have := Hy1.out; omega) Hy2.out
        have HQX := Lib.hid HX.out
        have HM := Lib.hid m5
        have B4 := Lib.hid (show M < a * 4294967296 + b by rw [AB.out, m5]; exact Nat.mod_lt _ (by have := Hy1.out; omega))
        obtain ⟨qn, qp, rn, m6, m7, m8, ks, ks2⟩ := fin2 M a b d (by have := B2.out; omega) B1.out (by have := B4.out; have := B1.out; have := BB.out; omega) D1.out
        have KS2 := Lib.hid (show KRel M a b d (.int .u64 qn) (.int .u64 rn) from ⟨qn, rn, ks, ks2, rfl, rfl⟩)
        clear m5 ks ks2 HX
        go_wp2
        go_loop [18, 16] (fun x z => KRel M a b d x z) (fun x _ => (intOf x).toNat)
        case atStart => exact KS2.out
        case round =>
          obtain ⟨p, t, hk, hr, rfl, rfl⟩ := hrel
          have HK := Lib.hid hk; have HR := Lib.hid hr
          have QB := Lib.hid (knuth_bound M a b d p t hk B2.out BB.out B4.out)
          cases g1 : decide ((4294967296 : Int) ≤ (p : Int)) with
          | true =>
            obtain ⟨hk2, hq1⟩ := knuth_step M a b d p t hk B4.out D1.out (Or.inl (by simp at g1; omega))
            obtain ⟨p', hq'⟩ : ∃ x, p - 1 = x := ⟨_, rfl⟩
            obtain ⟨t', hr'⟩ : ∃ x, t + a = x := ⟨_, rfl⟩
            rw [hq', hr'] at hk2
            have s1 : IntKind.u64.wrap ((p : Int) - 1) = (p' : Int) := by
              rw [show ((p : Int) - 1) = (p' : Int) by omega]; exact u64_in _ (Int.natCast_nonneg _) (by have := QB.out; omega)
            have s2 : IntKind.u64.wrap ((t : Int) + (a : Int)) = (t' : Int) := by
              rw [show ((t : Int) + (a : Int)) = (t' : Int) by omega]; exact u64_in _ (Int.natCast_nonneg _) (by have := B1.out; omega)
            have HK2 := Lib.hid hk2
            have M1 := Lib.hid (show p' < p by omega)
            cases g2 : decide ((4294967296 : Int) ≤ (t' : Int)) with
            | true =>
              have HX2 := Lib.hid (knuth_end M a b d p' t' hk2 BB.out B4.out (Or.inl (by simp at g2; omega)))
              clear hk2 hq' hr' hq1 hk hr
              rw [AB.out] at HX2
              obtain ⟨V1, V2, V3, R, v1, v2, v3, v4, v5⟩ := fin1 M d p' y HX2.out (by have := Hy1.out; omega) Hy2.out
              obtain ⟨f1, f2, f3⟩ := fin3 hi lo y u c d M q p' L Hl.out Hy.out Hu.out HL.out Hc.out Hd.out HQX.out HM.out HX2.out
              obtain ⟨W1, hW1⟩ : ∃ n, q * 4294967296 = n := ⟨_, rfl⟩
              have v6 : IntKind.u64.wrap ((q : Int) * 4294967296) = (W1 : Int) := by
                rw [show ((q : Int) * 4294967296) = (W1 : Int) by omega]; exact u64_in _ (Int.natCast_nonneg _) (by omega)
              have v7 : IntKind.u64.wrap ((W1 : Int) + (p' : Int)) = (((hi * 18446744073709551616 + lo) / y : Nat) : Int) := by
                rw [← f1, hW1, ← Int.natCast_add]; exact u64_in _ (Int.natCast_nonneg _) (by omega)
              have v8 : (R : Int) / 8 = (((hi * 18446744073709551616 + lo) % y : Nat) : Int) := by rw [← f2, v5]; simp
              have F := Lib.hid v7; have F2 := Lib.hid v8
              clear v5 f1 f2 f3 hW1 v7 v8
              go_wp2
              go_ret2
              exact ⟨by rw [F.out, F2.out]; rfl, 0, rfl⟩
            | false =>
              have HR2 := Lib.hid (show t' < 4294967296 by simp at g2; omega)
              clear hk2 hq' hr' hq1 hk hr
              go_wp2
              exact ⟨⟨p', t', HK2.out, HR2.out, rfl, rfl⟩, by simp [intOf]; exact M1.out⟩
          | false =>
            have HQ := Lib.hid (show p < 4294967296 by simp at g1; omega)
            have hqb := Nat.mul_le_mul (show p ≤ 4294967295 by have := HQ.out; omega) (show b ≤ 4294967295 by have := BB.out; omega)
            obtain ⟨X, hX⟩ : ∃ X, p * b = X := ⟨_, rfl⟩
            obtain ⟨Y, hY⟩ : ∃ Y, 4294967296 * t = Y := ⟨_, rfl⟩
            obtain ⟨Z, hZ⟩ : ∃ Z, Y + d = Z := ⟨_, rfl⟩
            have e1 : IntKind.u64.wrap ((p : Int) * (b : Int)) = (X : Int) := by
              rw [← Int.natCast_mul, hX]; exact u64_in _ (Int.natCast_nonneg _) (by omega)
            have e2 : IntKind.u64.wrap (4294967296 * (t : Int)) = (Y : Int) := by
              rw [show (4294967296 * (t : Int)) = (Y : Int) by omega]; exact u64_in _ (Int.natCast_nonneg _) (by omega)
            have e3 : IntKind.u64.wrap ((Y : Int) + (d : Int)) = (Z : Int) := by
              rw [show ((Y : Int) + (d : Int)) = (Z : Int) by omega]; exact u64_in _ (Int.natCast_nonneg _) (by have := D1.out; omega)
            cases g3 : decide (Z < X) with
            | true =>
              have g3' : Z < X := by simpa using g3
              have g4 : decide (Z < X) = true := g3
              obtain ⟨hk2, hq1⟩ := knuth_step M a b d p t hk B4.out D1.out (Or.inr (by omega))
              clear hqb hX hY hZ g3 g3'
              obtain ⟨p', hq'⟩ : ∃ x, p - 1 = x := ⟨_, rfl⟩
              obtain ⟨t', hr'⟩ : ∃ x, t + a = x := ⟨_, rfl⟩
              rw [hq', hr'] at hk2
              have s1 : IntKind.u64.wrap ((p : Int) - 1) = (p' : Int) := by
                rw [show ((p : Int) - 1) = (p' : Int) by omega]; exact u64_in _ (Int.natCast_nonneg _) (by have := QB.out; omega)
              have s2 : IntKind.u64.wrap ((t : Int) + (a : Int)) = (t' : Int) := by
                rw [show ((t : Int) + (a : Int)) = (t' : Int) by omega]; exact u64_in _ (Int.natCast_nonneg _) (by have := B1.out; omega)
              have HK2 := Lib.hid hk2
              have M1 := Lib.hid (show p' < p by omega)
              cases g2 : decide ((4294967296 : Int) ≤ (t' : Int)) with
              | true =>
                have HX2 := Lib.hid (knuth_end M a b d p' t' hk2 BB.out B4.out (Or.inl (by simp at g2; omega)))
                clear hk2 hq' hr' hq1 hk hr
                rw [AB.out] at HX2
                obtain ⟨V1, V2, V3, R, v1, v2, v3, v4, v5⟩ := fin1 M d p' y HX2.out (by have := Hy1.out; omega) Hy2.out
                obtain ⟨f1, f2, f3⟩ := fin3 hi lo y u c d M q p' L Hl.out Hy.out Hu.out HL.out Hc.out Hd.out HQX.out HM.out HX2.out
                obtain ⟨W1, hW1⟩ : ∃ n, q * 4294967296 = n := ⟨_, rfl⟩
                have v6 : IntKind.u64.wrap ((q : Int) * 4294967296) = (W1 : Int) := by
                  rw [show ((q : Int) * 4294967296) = (W1 : Int) by omega]; exact u64_in _ (Int.natCast_nonneg _) (by omega)
                have v7 : IntKind.u64.wrap ((W1 : Int) + (p' : Int)) = (((hi * 18446744073709551616 + lo) / y : Nat) : Int) := by
                  rw [← f1, hW1, ← Int.natCast_add]; exact u64_in _ (Int.natCast_nonneg _) (by omega)
                have v8 : (R : Int) / 8 = (((hi * 18446744073709551616 + lo) % y : Nat) : Int) := by rw [← f2, v5]; simp
                have F := Lib.hid v7; have F2 := Lib.hid v8
                clear v5 f1 f2 f3 hW1 v7 v8
                go_wp2
                go_ret2
                exact ⟨by rw [F.out, F2.out]; rfl, 0, rfl⟩
              | false =>
                have HR2 := Lib.hid (show t' < 4294967296 by simp at g2; omega)
                clear hk2 hq' hr' hq1 hk hr
                go_wp2
                exact ⟨⟨p', t', HK2.out, HR2.out, rfl, rfl⟩, by simp [intOf]; exact M1.out⟩
            | false =>
              have g3' : X ≤ Z := by simpa using g3
              have g4 : decide (Z < X) = false := g3
              have HX2 := Lib.hid (knuth_end M a b d p t hk BB.out B4.out (Or.inr ⟨HQ.out, by omega⟩))
              clear hqb hX hY hZ g3 g3' hk hr
              rw [AB.out] at HX2
              obtain ⟨V1, V2, V3, R, v1, v2, v3, v4, v5⟩ := fin1 M d p y HX2.out (by have := Hy1.out; omega) Hy2.out
              obtain ⟨f1, f2, f3⟩ := fin3 hi lo y u c d M q p L Hl.out Hy.out Hu.out HL.out Hc.out Hd.out HQX.out HM.out HX2.out
              obtain ⟨W1, hW1⟩ : ∃ n, q * 4294967296 = n := ⟨_, rfl⟩
              have v6 : IntKind.u64.wrap ((q : Int) * 4294967296) = (W1 : Int) := by
                rw [show ((q : Int) * 4294967296) = (W1 : Int) by omega]; exact u64_in _ (Int.natCast_nonneg _) (by omega)
              have v7 : IntKind.u64.wrap ((W1 : Int) + (p : Int)) = (((hi * 18446744073709551616 + lo) / y : Nat) : Int) := by
                rw [← f1, hW1, ← Int.natCast_add]; exact u64_in _ (Int.natCast_nonneg _) (by omega)
              have v8 : (R : Int) / 8 = (((hi * 18446744073709551616 + lo) % y : Nat) : Int) := by rw [← f2, v5]; simp
              have F := Lib.hid v7; have F2 := Lib.hid v8
              clear v5 f1 f2 f3 hW1 v7 v8
              go_wp2
              go_ret2
              exact ⟨by rw [F.out, F2.out]; rfl, 0, rfl⟩

theorem drew_trans {w : World} {a b : Nat} : (w.drewN a).drewN b = w.drewN (a + b) := by simp [World.drewN, Nat.add_assoc]
theorem drew_grown (w : World) (n : Nat) : w.grownBy (w.drewN n) none := ⟨rfl, rfl, rfl, Nat.le_refl _, fun _ _ _ => rfl⟩
def Drew (v : Value) (w : World) (e : Ending) (w' : World) : Prop := e = .returned v ∧ ∃ n, w' = w.drewN n

theorem div_p (hi lo : Nat) (w : World) (hl : lo < 18446744073709551616) (hh : hi < 2305843009213693950) :
    Calls Tryz.prog 126 #[.int .u64 (hi : Int), .int .u64 (lo : Int), .int .u64 2305843009213693951] w (Drew (.tuple #[.int .u64 (((hi * 18446744073709551616 + lo) / 2305843009213693951 : Nat) : Int), .int .u64 (((hi * 18446744073709551616 + lo) % 2305843009213693951 : Nat) : Int)]) w) := by
  rcases Nat.eq_zero_or_pos hi with rfl | h0
  · have := div64_zero lo 2305843009213693951 w hl (by omega) (by omega)
    rw [Nat.zero_mul, Nat.zero_add]
    exact this
  · exact div64_ok hi lo 2305843009213693951 w hl h0 (by omega) (by omega) (by omega) lz_p
theorem div_q (hi lo : Nat) (w : World) (hl : lo < 18446744073709551616) (hh : hi < 2305843009213693950) :
    Calls Tryz.prog 126 #[.int .u64 (hi : Int), .int .u64 (lo : Int), .int .u64 2305843009213693950] w (Drew (.tuple #[.int .u64 (((hi * 18446744073709551616 + lo) / 2305843009213693950 : Nat) : Int), .int .u64 (((hi * 18446744073709551616 + lo) % 2305843009213693950 : Nat) : Int)]) w) := by
  rcases Nat.eq_zero_or_pos hi with rfl | h0
  · have := div64_zero lo 2305843009213693950 w hl (by omega) (by omega)
    rw [Nat.zero_mul, Nat.zero_add]
    exact this
  · exact div64_ok hi lo 2305843009213693950 w hl h0 (by omega) (by omega) (by omega) lz_q

theorem mul_hi (x y m : Nat) (hx : x < m) (hy : y < m) (hm : m ≤ 2305843009213693951) :
    x * y / 18446744073709551616 < 2305843009213693950 ∧ x * y / 18446744073709551616 * 18446744073709551616 + x * y % 18446744073709551616 = x * y := by
  have := Nat.mul_le_mul (show x ≤ 2305843009213693950 by omega) (show y ≤ 2305843009213693950 by omega)
  refine ⟨by omega, ?_⟩
  have := Nat.div_add_mod (x * y) 18446744073709551616
  omega

set_option maxHeartbeats 1000000 in
theorem times_p (a b : Nat) (w : World) (_ha : a < 18446744073709551616) (_hb : b < 18446744073709551616) :
    Calls Tryz.prog 89 #[.int .u64 (a : Int), .int .u64 (b : Int), .int .u64 2305843009213693951] w (Drew (.int .u64 ((a * b % 2305843009213693951 : Nat) : Int)) w) := by
  obtain ⟨x, hx⟩ : ∃ x, a % 2305843009213693951 = x := ⟨_, rfl⟩
  obtain ⟨y, hy⟩ : ∃ y, b % 2305843009213693951 = y := ⟨_, rfl⟩
  have k1 : (a : Int) % 2305843009213693951 = (x : Int) := by omega
  have k2 : (b : Int) % 2305843009213693951 = (y : Int) := by omega
  obtain ⟨h1, h2⟩ := mul_hi x y 2305843009213693951 (by omega) (by omega) (by omega)
  have h3 : x * y % 2305843009213693951 = a * b % 2305843009213693951 := by rw [← hx, ← hy, ← Nat.mul_mod]
  have CM := Lib.hid (Tryz.bits_Mul64 x y (by omega) (by omega))
  have CD := Lib.hid (fun w => div_p (x * y / 18446744073709551616) (x * y % 18446744073709551616) w (Nat.mod_lt _ (by omega)) h1)
  rw [h2, h3] at CD
  obtain ⟨H, hH⟩ : ∃ n, x * y / 18446744073709551616 = n := ⟨_, rfl⟩
  obtain ⟨L, hL⟩ : ∃ n, x * y % 18446744073709551616 = n := ⟨_, rfl⟩
  obtain ⟨R, hR⟩ : ∃ n, a * b % 2305843009213693951 = n := ⟨_, rfl⟩
  rw [hH, hL] at CM CD
  rw [hR] at CD ⊢
  clear hx hy h1 h2 h3 hH hL hR _ha _hb
  go_enter Tryz.func89, Tryz.ntmps89
  go_wp2_with fail
  go_quiet ((go_at_call 125; exact Calls.quiet_of_same (CM.out _)))
  go_wp2_with fail
  refine (CD.out _).mono ?_
  rintro e w' ⟨rfl, n2, rfl⟩
  go_wp2_with fail
  go_ret
  exact ⟨rfl, _, rfl⟩
set_option maxHeartbeats 1000000 in
theorem times_q (a b : Nat) (w : World) (_ha : a < 18446744073709551616) (_hb : b < 18446744073709551616) :
    Calls Tryz.prog 89 #[.int .u64 (a : Int), .int .u64 (b : Int), .int .u64 2305843009213693950] w (Drew (.int .u64 ((a * b % 2305843009213693950 : Nat) : Int)) w) := by
  obtain ⟨x, hx⟩ : ∃ x, a % 2305843009213693950 = x := ⟨_, rfl⟩
  obtain ⟨y, hy⟩ : ∃ y, b % 2305843009213693950 = y := ⟨_, rfl⟩
  have k1 : (a : Int) % 2305843009213693950 = (x : Int) := by omega
  have k2 : (b : Int) % 2305843009213693950 = (y : Int) := by omega
  obtain ⟨h1, h2⟩ := mul_hi x y 2305843009213693950 (by omega) (by omega) (by omega)
  have h3 : x * y % 2305843009213693950 = a * b % 2305843009213693950 := by rw [← hx, ← hy, ← Nat.mul_mod]
  have CM := Lib.hid (Tryz.bits_Mul64 x y (by omega) (by omega))
  have CD := Lib.hid (fun w => div_q (x * y / 18446744073709551616) (x * y % 18446744073709551616) w (Nat.mod_lt _ (by omega)) h1)
  rw [h2, h3] at CD
  obtain ⟨H, hH⟩ : ∃ n, x * y / 18446744073709551616 = n := ⟨_, rfl⟩
  obtain ⟨L, hL⟩ : ∃ n, x * y % 18446744073709551616 = n := ⟨_, rfl⟩
  obtain ⟨R, hR⟩ : ∃ n, a * b % 2305843009213693950 = n := ⟨_, rfl⟩
  rw [hH, hL] at CM CD
  rw [hR] at CD ⊢
  clear hx hy h1 h2 h3 hH hL hR _ha _hb
  go_enter Tryz.func89, Tryz.ntmps89
  go_wp2_with fail
  go_quiet ((go_at_call 125; exact Calls.quiet_of_same (CM.out _)))
  go_wp2_with fail
  refine (CD.out _).mono ?_
  rintro e w' ⟨rfl, n2, rfl⟩
  go_wp2_with fail
  go_ret
  exact ⟨rfl, _, rfl⟩

def PwRel (t : Nat) (w : World) (bv ev nv : Value) (wr : World) : Prop := ∃ b e n k : Nat, b < 18446744073709551616 ∧ e < 18446744073709551616 ∧ n < pP ∧ n * b ^ e % pP = t ∧
  bv = .int .u64 (b : Int) ∧ ev = .int .u64 (e : Int) ∧ nv = .int .u64 (n : Int) ∧ wr = w.drewN k
theorem and_1 (e : Nat) (h : e < 18446744073709551616) : bits .and .u64 (e : Int) 1 = ((e % 2 : Nat) : Int) := by rw [and_one_u64 _ (by omega) (by omega)]; simp

set_option maxHeartbeats 1000000 in
theorem Power_ok (b0 e0 : Nat) (w : World) (hb : b0 < 18446744073709551616) (he : e0 < 18446744073709551616) :
    Calls Tryz.prog 58 #[.int .u64 (b0 : Int), .int .u64 (e0 : Int)] w (Drew (.int .u64 ((pw b0 e0 : Nat) : Int)) w) := by
  have HS := Lib.hid (show PwRel (pw b0 e0) w (.int .u64 b0) (.int .u64 e0) (.int .u64 1) w from ⟨b0, e0, 1, 0, hb, he, by unfold pP; omega, by rw [Nat.one_mul]; rfl, rfl, rfl, rfl, rfl⟩)
  clear hb he
  go_enter Tryz.func58, Tryz.ntmps58
  go_wp2_with fail
  go_loopw [0, 1, 5] (fun bv ev nv wr => PwRel (pw b0 e0) w bv ev nv wr) (fun _ ev _ _ => (intOf ev).toNat)
  case atStart => exact HS.out
  case round =>
    obtain ⟨b, e, n, k, hb, he, hn, ht, rfl, rfl, rfl, rfl⟩ := hrel
    have HB := Lib.hid hb; have HE := Lib.hid he; have HN := Lib.hid hn
    rcases Nat.eq_zero_or_pos e with rfl | h0
    · have HR := Lib.hid (show n = pw b0 e0 by rw [← ht, Nat.pow_zero, Nat.mul_one, Nat.mod_eq_of_lt hn])
      clear hb he hn ht
      go_wp2_with fail
      go_ret
      rw [← HR.out]
      exact ⟨rfl, k, rfl⟩
    · obtain ⟨e', he'⟩ : ∃ x, e / 2 = x := ⟨_, rfl⟩
      have g0 : decide (0 < e) = true := by simp; omega
      have g1 : (e : Int) / 2 = (e' : Int) := by omega
      have HT := Lib.hid (show ((if e % 2 = 1 then n * b % pP else n) * (b * b % pP) ^ e') % pP = pw b0 e0 by rw [← he', ← pw_half, ht])
      have M1 := Lib.hid (show e' < e by omega)
      have HE2 := Lib.hid (show e' < 18446744073709551616 by omega)
      have CB := Lib.hid (fun w => times_p b b w hb hb)
      have CN := Lib.hid (fun w => times_p n b w (by unfold pP at hn; omega) hb)
      obtain ⟨bb, hbb⟩ : ∃ x, b * b % 2305843009213693951 = x := ⟨_, rfl⟩
      have HB2 := Lib.hid (show bb < 18446744073709551616 by have := Nat.mod_lt (b * b) (show 0 < 2305843009213693951 by omega); omega)
      rw [hbb] at CB
      have hT := HT.out
      rw [show b * b % pP = bb from hbb] at hT
      rcases Nat.mod_two_eq_zero_or_one e with h2 | h2
      · have g2 : bits .and .u64 (e : Int) 1 = 0 := by rw [and_1 e he, h2]; rfl
        have HR := Lib.hid (show n * bb ^ e' % pP = pw b0 e0 by rw [← hT, if_neg (by omega)])
        clear hb he hn ht h0 he' hbb hT h2
        go_wp2_with fail
        refine (CB.out _).mono ?_
        rintro ee w' ⟨rfl, n2, rfl⟩
        go_wp2_with fail
        exact ⟨⟨bb, e', n, k + n2, HB2.out, HE2.out, HN.out, HR.out, rfl, rfl, rfl, rfl⟩, by simp [intOf]; exact M1.out⟩
      · have g2 : bits .and .u64 (e : Int) 1 = 1 := by rw [and_1 e he, h2]; rfl
        obtain ⟨nb, hnb⟩ : ∃ x, n * b % 2305843009213693951 = x := ⟨_, rfl⟩
        have HNB := Lib.hid (show nb < pP by rw [← hnb]; exact Nat.mod_lt _ (by omega))
        have HR := Lib.hid (show nb * bb ^ e' % pP = pw b0 e0 by rw [← hT, if_pos h2, ← hnb]; rfl)
        rw [hnb] at CN
        clear hb he hn ht h0 he' hbb hT h2 hnb
        go_wp2_with fail
        refine (CN.out _).mono ?_
        rintro ee w' ⟨rfl, n1, rfl⟩
        go_wp2_with fail
        refine (CB.out _).mono ?_
        rintro ee w' ⟨rfl, n2, rfl⟩
        go_wp2_with fail
        exact ⟨⟨bb, e', nb, k + n1 + n2, HB2.out, HE2.out, HNB.out, HR.out, rfl, rfl, rfl, rfl⟩, by simp [intOf]; exact M1.out⟩

theorem be_get : ∀ (k n i : Nat) (_h : i < k), (be k n)[i]? = some (UInt8.ofNat (n / 256 ^ (k - 1 - i)))
  | 0, _, _, h => by omega
  | k + 1, n, 0, _ => by simp [be]
  | k + 1, n, i + 1, h => by
    rw [be, List.getElem?_cons_succ, be_get k n i (by omega)]
    congr 4
    omega
theorem drew_keep {w w' : World} {row : Option Nat} (h : w.grownBy w' row) : w.grownBy w'.drew row := ⟨h.os, h.tape, h.output, h.size, h.block⟩
def wordC (n k : Nat) : List UInt8 := (be 8 n).take k ++ List.replicate (8 - k) 0
theorem wordC_len (n k : Nat) (h : k ≤ 8) : (wordC n k).length = 8 := by simp [wordC, be_length]; omega
theorem wordC_set (n k : Nat) (h : k < 8) : (Lib.byteCells (wordC n k)).set k (.int .u8 ((UInt8.ofNat (n / 256 ^ (7 - k))).toNat : Int)) = Lib.byteCells (wordC n (k + 1)) := by
  refine List.ext_getElem? fun j => ?_
  have hb : (be 8 n)[k]? = some (UInt8.ofNat (n / 256 ^ (7 - k))) := by rw [be_get 8 n k h, show 8 - 1 - k = 7 - k by omega]
  have hl := be_length 8 n
  by_cases hj : j < 8
  · by_cases e : k = j
    · subst e
      rw [List.getElem?_set_self (by rw [Lib.byteCells_length, wordC_len n k (by omega)]; omega)]
      unfold Lib.byteCells wordC
      rw [List.getElem?_map, List.getElem?_append_left (by rw [List.length_take]; omega), List.getElem?_take_of_lt (by omega), hb]
      rfl
    · rw [List.getElem?_set_ne e]
      unfold Lib.byteCells wordC
      rw [List.getElem?_map, List.getElem?_map]
      by_cases h2 : j < k
      · rw [List.getElem?_append_left (by rw [List.length_take]; omega), List.getElem?_append_left (by rw [List.length_take]; omega), List.getElem?_take_of_lt h2, List.getElem?_take_of_lt (by omega)]
      · rw [List.getElem?_append_right (by rw [List.length_take]; omega), List.getElem?_append_right (by rw [List.length_take]; omega), List.getElem?_replicate, List.getElem?_replicate, List.length_take, List.length_take]
        rw [if_pos (by omega), if_pos (by omega)]
  · rw [List.getElem?_eq_none (by rw [List.length_set, Lib.byteCells_length, wordC_len n k (by omega)]; omega), List.getElem?_eq_none (by rw [Lib.byteCells_length, wordC_len n (k + 1) (by omega)]; omega)]
def Z8b : List Value := Lib.byteCells (List.replicate 8 0)
theorem Z8b_info : (Tryz.prog.info? 193).map (fun i => i.zero.map (fun v => v.cells)) = some (some Z8b.toArray) := by kernel_rfl
theorem size_u8 : (Tryz.prog.info? 5).map (·.size) = some 1 := by kernel_rfl

set_option maxHeartbeats 1000000 in
theorem word_ok (n : Nat) (w : World) (hn : n < 18446744073709551616) :
    Calls Tryz.prog 105 #[.int .u64 (n : Int)] w fun e w' => e = .returned (.slice (some ⟨w.heap.size, 0, none⟩) 8 8) ∧ RdB w' (.slice (some ⟨w.heap.size, 0, none⟩) 8 8) (be 8 n) ∧ w.grownBy w' none := by
  have Hn := Lib.hid hn
  clear hn
  go_enter Tryz.func105, Tryz.ntmps105
  go_wp2_with (refine wpList_alloc_as rfl 193 rfl Z8b Z8b_info ?_)
  intro w1 b1 g1 s1
  obtain ⟨b, hb⟩ : ∃ b, w.heap.size = b := ⟨_, rfl⟩
  rw [hb] at b1 s1 ⊢
  have B1 := Lib.hid b1; have G1 := Lib.hid g1; have S1 := Lib.hid s1; have HB := Lib.hid hb
  clear b1 g1 s1 hb
  go_wp2_with fail
  go_loopw [5] (fun i wr => ∃ k : Nat, k ≤ 8 ∧ i = .int .i64 k ∧ Blk wr b (Lib.byteCells (wordC n k)) 193 ∧ w.grownBy wr none) (fun i _ => 8 - (intOf i).toNat)
  case atStart => exact ⟨0, Nat.zero_le _, rfl, B1.out, G1.out⟩
  case round =>
    obtain ⟨k, hk, rfl, hb, hg⟩ := hrel
    have Hb := Lib.hid hb; have Hg := Lib.hid hg
    clear hb hg
    by_cases hlt : k < 8
    · have q1 : ((56 : Int) - 8 * (k : Int)) = 8 * ((7 - k : Nat) : Int) := by omega
      obtain ⟨kk, hkk⟩ : ∃ kk : Int, kk = 8 * ((7 - k : Nat) : Int) := ⟨_, rfl⟩
      rw [← hkk] at q1
      have hk0 : 0 ≤ kk := by omega
      have hk2 : kk < 64 := by omega
      have hby : IntKind.u8.wrap ((n : Int) / 2 ^ kk.toNat) = ((UInt8.ofNat (n / 256 ^ (7 - k))).toNat : Int) := by rw [hkk, ← byte_of]
      have hlen : (Lib.byteCells (wordC n k)).length = 8 := by rw [Lib.byteCells_length, wordC_len n k (by omega)]
      have Hby := Lib.hid hby; have Hset := Lib.hid (wordC_set n k hlt); have Hlen := Lib.hid hlen
      have hby2 : ((n : Int) / 2 ^ kk.toNat) % 256 = ((UInt8.ofNat (n / 256 ^ (7 - k))).toNat : Int) := by rw [← hby, IntKind.wrap_u8]
      obtain ⟨c, hc⟩ : ∃ c : UInt8, c = UInt8.ofNat (n / 256 ^ (7 - k)) := ⟨_, rfl⟩
      rw [← hc] at Hset hby2 Hby
      have Hby2 := Lib.hid hby2
      clear hby hkk hlen hc hby2
      have hl8 : k < (Lib.byteCells (wordC n k)).length := by rw [Hlen.out]; exact hlt
      go_wp2_with (refine wpList_store_cell rfl 5 _ _ rfl b k rfl (.int .u8 (c.toNat : Int)) (congrArg (Value.int .u8) Hby2.out) rfl _ _ Hb.out hl8 size_u8 ?_)
      intro w2 g2 s2 b2
      rw [Hset.out] at b2
      have B2 := Lib.hid b2; have G2 := Lib.hid (grown_new Hg.out g2 (by rw [HB.out]; exact Nat.le_refl _))
      clear b2 g2 s2
      go_wp2_with fail
      exact ⟨⟨k + 1, by omega, by go_num, B2.out, G2.out⟩, by simp [intOf]; omega⟩
    · obtain rfl : k = 8 := by omega
      go_wp2_with fail
      go_ret
      have e8 : wordC n 8 = be 8 n := by unfold wordC; rw [List.take_of_length_le (by rw [be_length]; exact Nat.le_refl _)]; simp
      have hb8 := Hb.out
      rw [e8] at hb8
      have r : RdB wr (.slice (some ⟨b, 0, none⟩) 8 8) (be 8 n) := ⟨some ⟨b, 0, none⟩, 8, by rw [be_length], by rw [be_length]; exact Nat.le_refl _, by unfold maxLen; omega, Or.inr ⟨b, 0, rfl, hb8.lt, hb8.row⟩⟩
      rw [HB.out]
      exact ⟨rfl, r, Hg.out⟩

def numL (h : List UInt8) : Nat := ofBe (h.take 8) % pQ
theorem numL_lt (h : List UInt8) : numL h < pQ := Nat.mod_lt _ (by unfold pQ; omega)
set_option maxHeartbeats 1000000 in
theorem number_ok (h : List UInt8) (w : World) (hl : h.length = 32) :
    Calls Tryz.prog 103 #[.agg (Lib.byteCells h).toArray] w fun e w' => e = .returned (.int .u64 (numL h : Int)) ∧ w.grownBy w' none := by
  have Hl := Lib.hid hl
  clear hl
  go_enter Tryz.func103, Tryz.ntmps103
  go_wp2_with (refine wpList_box_as rfl 26 _ rfl (Lib.byteCells h) rfl ?_)
  intro w1 b1 g1 s1
  have B1 := Lib.hid b1; have G1 := Lib.hid g1
  obtain ⟨b, hb⟩ : ∃ b, w.heap.size = b := ⟨_, rfl⟩
  rw [hb] at B1 ⊢
  clear b1 g1 s1 hb
  go_wp2_with fail
  go_loop [3, 8] (fun x i => ∃ k : Nat, k ≤ 8 ∧ i = .int .i64 k ∧ ∃ a : Nat, x = .int .u64 a ∧ a < 256 ^ k ∧ a = ofBe (h.take k)) (fun _ i => 8 - (intOf i).toNat)
  case atStart => exact ⟨0, Nat.zero_le _, rfl, 0, rfl, by simp, rfl⟩
  case round =>
    obtain ⟨k, hk, rfl, a, rfl, ha, hx⟩ := hrel
    have Ha := Lib.hid ha; have Hx := Lib.hid hx; clear ha hx
    by_cases hlt : k < 8
    · have hk2 : k < h.length := by rw [Hl.out]; omega
      have hcell := B1.out.row k _ (byteCells_get _ k hk2)
      rw [Nat.zero_add] at hcell
      obtain ⟨u, hu⟩ : ∃ u, u = h[k] := ⟨_, rfl⟩
      rw [← hu] at hcell
      have Hs := Lib.hid (show ofBe (h.take (k + 1)) = ofBe (h.take k) * 256 + u.toNat by rw [List.take_succ_eq_append_getElem hk2, ofBe_snoc, ← hu])
      clear hk2 hu
      go_wp2
      have h7 : a < 256 ^ 7 := Nat.lt_of_lt_of_le Ha.out (Nat.pow_le_pow_right (by decide) (by omega))
      refine ⟨⟨k + 1, by omega, by go_num, a * 256 + u.toNat, by rw [or_byte a u h7], pow_step a k u Ha.out, by rw [Hs.out, Hx.out]⟩, by simp [intOf]; omega⟩
    · obtain rfl : k = 8 := by omega
      have q1 : (a : Int) % 2305843009213693950 = ((numL h : Nat) : Int) := by
        unfold numL; rw [← Hx.out]; unfold pQ; simp
      go_wp2
      go_ret
      exact ⟨rfl, G1.out⟩

theorem join_len (_tag : UInt8) (ls : List (List UInt8)) {n : Nat} (h : ls.flatten.length = n) : ls.flatten.length = n := h
/-- three slices in a row of the call's own -/
theorem rdl_three (w : World) (u1 u2 u3 : Value) (l1 l2 l3 : List UInt8) (T : TypeId) (h1 : RdB w u1 l1) (h2 : RdB w u2 l2) (h3 : RdB w u3 l3) :
    ∃ W, w.alloc (.cells #[u1, u2, u3] T) = W ∧ RdL W (.slice (some ⟨w.heap.size, 0, none⟩) 3 3) [l1, l2, l3] ∧ w.grownBy W none := by
  have g : w.grownBy (w.alloc (.cells #[u1, u2, u3] T)) none := World.grownBy_alloc w _ none
  refine ⟨_, rfl, ⟨_, 3, [u1, u2, u3], rfl, Nat.le_refl _, by simp [maxLen], rfl, fun i l' hi => ?_, Or.inr ⟨_, 0, rfl, by simp, RowAt_box w [u1, u2, u3] T⟩⟩, g⟩
  match i, hi with
  | 0, hi => injection hi with hi; subst hi; exact ⟨_, rfl, h1.grown g⟩
  | 1, hi => injection hi with hi; subst hi; exact ⟨_, rfl, h2.grown g⟩
  | 2, hi => injection hi with hi; subst hi; exact ⟨_, rfl, h3.grown g⟩
  | i + 3, hi => simp at hi
theorem rdl_two (w : World) (u1 u2 : Value) (l1 l2 : List UInt8) (T : TypeId) (h1 : RdB w u1 l1) (h2 : RdB w u2 l2) :
    ∃ W, w.alloc (.cells #[u1, u2] T) = W ∧ RdL W (.slice (some ⟨w.heap.size, 0, none⟩) 2 2) [l1, l2] ∧ w.grownBy W none := by
  have g : w.grownBy (w.alloc (.cells #[u1, u2] T)) none := World.grownBy_alloc w _ none
  refine ⟨_, rfl, ⟨_, 2, [u1, u2], rfl, Nat.le_refl _, by simp [maxLen], rfl, fun i l' hi => ?_, Or.inr ⟨_, 0, rfl, by simp, RowAt_box w [u1, u2] T⟩⟩, g⟩
  match i, hi with
  | 0, hi => injection hi with hi; subst hi; exact ⟨_, rfl, h1.grown g⟩
  | 1, hi => injection hi with hi; subst hi; exact ⟨_, rfl, h2.grown g⟩
  | i + 2, hi => simp at hi

def chalL (r key : Nat) (m : List UInt8) : Nat := numL (blake (2 :: [be 8 r, be 8 key, m].flatten))
theorem chalL_lt (r key : Nat) (m : List UInt8) : chalL r key m < pQ := numL_lt _

set_option maxHeartbeats 1000000 in
theorem challenge_ok (r key : Nat) (m : List UInt8) (v : Value) (w : World) (hr : r < 18446744073709551616) (hk : key < 18446744073709551616) (hv : RdB w v m) (hm : m.length < 4611686018427387000)
    (hR : RowAt w 3 0 (wCells rootsL)) :
    Calls Tryz.prog 106 #[.int .u64 (r : Int), .int .u64 (key : Int), v] w fun e w' => e = .returned (.int .u64 (chalL r key m : Int)) ∧ w.grownBy w' none := by
  obtain ⟨ao, c, hv0, _⟩ := id hv
  subst hv0
  have HV := Lib.hid hv; have HR := Lib.hid hR; have Hr := Lib.hid hr; have Hk := Lib.hid hk; have Hm := Lib.hid hm
  clear hv hR hr hk hm
  go_enter Tryz.func106, Tryz.ntmps106
  go_wp2_with fail
  refine (word_ok r w Hr.out).mono ?_
  rintro e w1 ⟨rfl, r1, g1⟩
  obtain ⟨b1, hb1⟩ : ∃ b, w.heap.size = b := ⟨_, rfl⟩
  rw [hb1] at r1 ⊢
  have R1 := Lib.hid r1; have G1 := Lib.hid g1
  clear r1 g1 hb1
  go_wp2_with fail
  refine (word_ok key w1 Hk.out).mono ?_
  rintro e w2 ⟨rfl, r2, g2⟩
  obtain ⟨b2, hb2⟩ : ∃ b, w1.heap.size = b := ⟨_, rfl⟩
  rw [hb2] at r2 ⊢
  have R2 := Lib.hid r2; have R1' := Lib.hid (R1.out.grown g2); have G2 := Lib.hid (Lib.grownBy_trans G1.out g2)
  clear r2 g2 hb2 R1 G1
  go_wp2_with fail
  obtain ⟨w3, hw3, r3, g3⟩ := rdl_three w2 _ _ _ _ _ _ 27 R1'.out R2.out (HV.out.grown G2.out)
  rw [hw3]
  have C := Join_ok 2 [be 8 r, be 8 key, m] _ w3 r3 (by have := Hm.out; simp [be_length]; omega) (HR.out.grown (Lib.grownBy_trans G2.out g3) (by simp))
  have G3 := Lib.hid (Lib.grownBy_trans G2.out g3)
  clear r3 g3 hw3 R1' R2 G2
  have hbl := blake_len (2 :: [be 8 r, be 8 key, m].flatten)
  have hnl := show chalL r key m = numL (blake (2 :: [be 8 r, be 8 key, m].flatten)) from rfl
  obtain ⟨X, hX⟩ : ∃ X, blake (2 :: [be 8 r, be 8 key, m].flatten) = X := ⟨_, rfl⟩
  rw [hX] at C hbl hnl
  have HX := Lib.hid hnl; have HL := Lib.hid hbl
  clear hX hnl hbl
  refine C.mono ?_
  rintro e w4 ⟨rfl, g4⟩
  have G4 := Lib.hid (Lib.grownBy_trans G3.out g4)
  clear g4 C G3
  go_wp2_with fail
  refine (number_ok X w4 HL.out).mono ?_
  rintro e w5 ⟨rfl, g5⟩
  have G5 := Lib.hid (Lib.grownBy_trans G4.out g5)
  clear g5 G4
  go_wp2_with fail
  go_ret
  rw [HX.out]
  exact ⟨rfl, G5.out⟩

def keyOk (x : Nat) : Bool := decide (1 ≤ x) && decide (x < pQ)
set_option maxHeartbeats 1000000 in
theorem Key_yes (x : Nat) (w : World) (h : keyOk x = true) : Calls Tryz.prog 28 #[.int .u64 (x : Int)] w (Drew (.tuple #[.int .u64 ((pw 37 x : Nat) : Int), .int .i64 0]) w) := by
  have h1 : 1 ≤ x ∧ x < pQ := by simpa [keyOk] using h
  have hq : x < 2305843009213693950 := h1.2
  have g1 : ((x : Int) == 0) = false := by have := h1.1; simp; omega
  have g2 : decide ((2305843009213693950 : Int) ≤ (x : Int)) = false := by simp; omega
  have C := Lib.hid (Power_ok 37 x w (by omega) (by omega))
  obtain ⟨k, hk⟩ : ∃ k, pw 37 x = k := ⟨_, rfl⟩
  rw [hk] at C ⊢
  clear h h1 hq hk
  go_enter Tryz.func28, Tryz.ntmps28
  go_wp2_with fail
  refine C.out.mono ?_
  rintro e w' ⟨rfl, n, rfl⟩
  go_wp2_with fail
  go_ret2
  exact ⟨rfl, _, rfl⟩
set_option maxHeartbeats 1000000 in
theorem Key_no (x : Nat) (w : World) (h : keyOk x = false) : Calls Tryz.prog 28 #[.int .u64 (x : Int)] w fun e w' => e = .returned (.tuple #[.int .u64 0, .int .i64 41]) ∧ w' = w := by
  rcases Nat.eq_zero_or_pos x with rfl | h0
  · go_enter Tryz.func28, Tryz.ntmps28
    go_wp2_with fail
    go_ret2
    exact ⟨rfl, rfl⟩
  · have hq : 2305843009213693950 ≤ x := by
      have : ¬ (x < pQ) := by intro h2; have : keyOk x = true := by simp [keyOk]; exact ⟨h0, h2⟩; 
                              rw [this] at h; cases h
      unfold pQ at this; omega
    have g1 : ((x : Int) == 0) = false := by simp; omega
    have g2 : decide ((2305843009213693950 : Int) ≤ (x : Int)) = true := by simp; omega
    clear h h0 hq
    go_enter Tryz.func28, Tryz.ntmps28
    go_wp2_with fail
    go_ret2
    exact ⟨rfl, rfl⟩

def sigC (r s : Nat) : List Value := [.int .u64 (r : Int), .int .u64 (s : Int)]
theorem ZSig_info : (Tryz.prog.info? 38).map (fun i => i.zero.map (fun v => v.cells)) = some (some (sigC 0 0).toArray) := by kernel_rfl
theorem bSigN : Tryz.prog.built 38 [] = some (sigC 0 0).toArray := by kernel_rfl
theorem sizeSigN (r s : Nat) : (Tryz.prog.info? 38).map (·.size) = some (sigC r s).length := by rw [show (sigC r s).length = (sigC 0 0).length from rfl]; kernel_rfl
theorem bSig2 (r s : Nat) : Tryz.prog.built 38 [(0, .int .u64 (r : Int)), (1, .int .u64 (s : Int))] = some (sigC r s).toArray := by kernel_rfl
theorem sigC_one (r s : Nat) : ∀ v ∈ sigC r s, v.oneCell' = true := by
  intro v hv; simp only [sigC, List.mem_cons, List.not_mem_nil, or_false] at hv; rcases hv with rfl | rfl <;> rfl
def kNL (x : Nat) (m : List UInt8) : Nat := max (numL (blake (1 :: [be 8 x, m].flatten))) 1
def sgR (x : Nat) (m : List UInt8) : Nat := pw 37 (kNL x m)
def sgS (x : Nat) (m : List UInt8) : Nat := (kNL x m + chalL (sgR x m) (pw 37 x) m * x % pQ) % pQ
theorem kNL_lt (x : Nat) (m : List UInt8) : kNL x m < pQ := by
  have := numL_lt (blake (1 :: [be 8 x, m].flatten))
  unfold kNL; unfold pQ at *; omega
theorem pw_u64 (b e : Nat) : pw b e < 18446744073709551616 := by have := pw_lt b e; unfold pP at this; omega

set_option maxHeartbeats 1000000 in
theorem Sign_no (x : Nat) (v : Value) (w : World) (h : keyOk x = false) :
    Calls Tryz.prog 68 #[.int .u64 (x : Int), v] w fun e w' => e = .returned (.tuple #[.agg (sigC 0 0).toArray, .int .i64 41]) ∧ w.grownBy w' none := by
  have H := Lib.hid h
  clear h
  go_enter Tryz.func68, Tryz.ntmps68
  go_wp2_with (refine wpList_alloc_as rfl 38 rfl (sigC 0 0) ZSig_info ?_)
  intro w1 b1 g1 s1
  have B1 := Lib.hid b1; have G1 := Lib.hid g1
  obtain ⟨b, hb⟩ : ∃ b, w.heap.size = b := ⟨_, rfl⟩
  rw [hb] at B1 ⊢
  have HB := Lib.hid hb
  clear b1 g1 s1 hb
  go_wp2_with fail
  refine (Key_no x w1 H.out).mono ?_
  rintro e w' ⟨rfl, rfl⟩
  go_wp2_with (first | (refine wpList_build_eq rfl 38 _ rfl [] (by kernel_rfl) (sigC 0 0) bSigN ?_) | (refine wpList_store_whole rfl 38 _ _ rfl b rfl (sigC 0 0) (sigC 0 0) 38 rfl B1.out rfl (sigC_one 0 0) (sizeSigN 0 0) ?_))
  intro w2 g2 s2 b2
  have B2 := Lib.hid b2; have G2 := Lib.hid (grown_new G1.out g2 (by rw [HB.out]; exact Nat.le_refl _))
  clear b2 g2 s2
  go_wp2_with fail
  refine bodyPost_ret (results_cell_tmp rfl _ _ ⟨b, 0, none⟩ _ _ rfl rfl (run_loadVar_part _ _ _ 38 (sigC 0 0) _ B2.out.row Tryz.underlying38 rfl (sizeSigN 0 0))) rfl ?_
  exact ⟨rfl, G2.out⟩

set_option maxHeartbeats 2000000 in
theorem Sign_yes (x : Nat) (m : List UInt8) (v : Value) (w : World) (h : keyOk x = true) (hv : RdB w v m) (hm : m.length < 4611686018427387000) (hR : RowAt w 3 0 (wCells rootsL)) :
    Calls Tryz.prog 68 #[.int .u64 (x : Int), v] w fun e w' => e = .returned (.tuple #[.agg (sigC (sgR x m) (sgS x m)).toArray, .int .i64 0]) ∧ w.grownBy w' none := by
  obtain ⟨ao, c, hv0, _⟩ := id hv
  subst hv0
  have hx : x < 2305843009213693950 := by have : 1 ≤ x ∧ x < pQ := by simpa [keyOk] using h
                                          exact this.2
  have HV := Lib.hid hv; have HR := Lib.hid hR; have Hm := Lib.hid hm; have H := Lib.hid h; have Hx := Lib.hid hx
  obtain ⟨key, hkey⟩ : ∃ k, pw 37 x = k := ⟨_, rfl⟩
  obtain ⟨k, hk⟩ : ∃ k, kNL x m = k := ⟨_, rfl⟩
  obtain ⟨r, hr⟩ : ∃ k, sgR x m = k := ⟨_, rfl⟩
  have Hkey := Lib.hid hkey; have Hk := Lib.hid hk; have Hr := Lib.hid hr
  have Kl := Lib.hid (show k < 2305843009213693950 by rw [← hk]; exact kNL_lt x m)
  clear hv hR hm h hx hkey hk hr
  go_enter Tryz.func68, Tryz.ntmps68
  go_wp2_with (refine wpList_alloc_as rfl 38 rfl (sigC 0 0) ZSig_info ?_)
  intro w1 b1 g1 s1
  have B1 := Lib.hid b1; have G1 := Lib.hid g1
  obtain ⟨b, hb⟩ : ∃ b, w.heap.size = b := ⟨_, rfl⟩
  rw [hb] at B1 ⊢
  have HB := Lib.hid hb
  clear b1 g1 s1 hb
  go_wp2_with fail
  refine (Key_yes x w1 H.out).mono ?_
  rw [Hkey.out]
  rintro e w' ⟨rfl, n, hw⟩
  have g2 : w1.grownBy w' none := hw ▸ drew_grown w1 n
  have B2 := Lib.hid (B1.out.grown g2 (by simp)); have G2 := Lib.hid (Lib.grownBy_trans G1.out g2)
  clear hw g2 B1 G1
  go_wp2_with fail
  refine (word_ok x w' (by have := Hx.out; omega)).mono ?_
  rintro e w3 ⟨rfl, r3, g3⟩
  obtain ⟨b3, hb3⟩ : ∃ b, w'.heap.size = b := ⟨_, rfl⟩
  rw [hb3] at r3 ⊢
  have B3 := Lib.hid (B2.out.grown g3 (by simp)); have G3 := Lib.hid (Lib.grownBy_trans G2.out g3); have R3 := Lib.hid r3
  clear r3 g3 hb3 B2 G2
  go_wp2_with fail
  obtain ⟨w4, hw4, r4, g4⟩ := rdl_two w3 _ _ _ _ 27 R3.out (HV.out.grown G3.out)
  rw [hw4]
  have C := Join_ok 1 [be 8 x, m] _ w4 r4 (by have := Hm.out; simp [be_length]; omega) (HR.out.grown (Lib.grownBy_trans G3.out g4) (by simp))
  have B4 := Lib.hid (B3.out.grown g4 (by simp)); have G4 := Lib.hid (Lib.grownBy_trans G3.out g4)
  clear r4 g4 hw4 R3 B3 G3
  have hbl := blake_len (1 :: [be 8 x, m].flatten)
  have hnl := show kNL x m = max (numL (blake (1 :: [be 8 x, m].flatten))) 1 from rfl
  obtain ⟨X, hX⟩ : ∃ X, blake (1 :: [be 8 x, m].flatten) = X := ⟨_, rfl⟩
  rw [hX] at C hbl hnl
  rw [Hk.out] at hnl
  have HX := Lib.hid hnl; have HL := Lib.hid hbl
  clear hX hnl hbl
  refine C.mono ?_
  rintro e w5 ⟨rfl, g5⟩
  have B5 := Lib.hid (B4.out.grown g5 (by simp)); have G5 := Lib.hid (Lib.grownBy_trans G4.out g5)
  clear g5 C B4 G4
  go_wp2_with fail
  refine (number_ok X w5 HL.out).mono ?_
  rintro e w6 ⟨rfl, g6⟩
  have B6 := Lib.hid (B5.out.grown g6 (by simp)); have G6 := Lib.hid (Lib.grownBy_trans G5.out g6)
  clear g6 B5 G5
  go_wp2_with fail
  have e1 : max ((numL X : Nat) : Int) 1 = (k : Int) := by have := HX.out; omega
  have er : pw 37 k = r := by rw [← Hr.out, ← Hk.out]; rfl
  rw [e1]
  have P := Power_ok 37 k w6 (by omega) (by have := Kl.out; omega)
  rw [er] at P
  refine P.mono ?_
  rintro e w7 ⟨rfl, n7, hw7⟩
  have g7 : w6.grownBy w7 none := hw7 ▸ drew_grown w6 n7
  have B7 := Lib.hid (B6.out.grown g7 (by simp)); have G7 := Lib.hid (Lib.grownBy_trans G6.out g7)
  clear hw7 g7 B6 G6 e1 er P
  go_wp2_with fail
  have CC := challenge_ok r key m _ w7 (by rw [← Hr.out]; exact pw_u64 _ _) (by rw [← Hkey.out]; exact pw_u64 _ _) (HV.out.grown G7.out) Hm.out (HR.out.grown G7.out (by simp))
  obtain ⟨ch, hch⟩ : ∃ n, chalL r key m = n := ⟨_, rfl⟩
  have Chl := Lib.hid (show ch < 2305843009213693950 by rw [← hch]; exact chalL_lt _ _ _)
  rw [hch] at CC
  have Hch := Lib.hid hch
  clear hch
  refine CC.mono ?_
  rintro e w8 ⟨rfl, g8⟩
  have B8 := Lib.hid (B7.out.grown g8 (by simp)); have G8 := Lib.hid (Lib.grownBy_trans G7.out g8)
  clear g8 CC B7 G7
  go_wp2_with fail
  have TQ := times_q ch x w8 (by have := Chl.out; omega) (by have := Hx.out; omega)
  obtain ⟨t, ht⟩ : ∃ n, ch * x % 2305843009213693950 = n := ⟨_, rfl⟩
  have Tl := Lib.hid (show t < 2305843009213693950 by rw [← ht]; exact Nat.mod_lt _ (by omega))
  rw [ht] at TQ
  have Ht := Lib.hid ht
  clear ht
  refine TQ.mono ?_
  rintro e w9 ⟨rfl, n9, hw9⟩
  have g9 : w8.grownBy w9 none := hw9 ▸ drew_grown w8 n9
  have B9 := Lib.hid (B8.out.grown g9 (by simp)); have G9 := Lib.hid (Lib.grownBy_trans G8.out g9)
  obtain ⟨z, hz⟩ : ∃ n, k + t = n := ⟨_, rfl⟩
  obtain ⟨s, hs⟩ : ∃ n, z % 2305843009213693950 = n := ⟨_, rfl⟩
  have f1 : IntKind.u64.wrap ((k : Int) + (t : Int)) = (z : Int) := by
    rw [← Int.natCast_add, hz]; exact u64_in _ (Int.natCast_nonneg _) (by have := Kl.out; have := Tl.out; omega)
  have f2 : (z : Int) % 2305843009213693950 = (s : Int) := by omega
  have Hs := Lib.hid (show sgS x m = s by
    unfold sgS; rw [Hk.out, Hr.out, Hkey.out, Hch.out, show pQ = 2305843009213693950 from rfl, Ht.out, hz, hs])
  clear hz hs hw9 g9 TQ B8 G8
  go_wp2_with (first | (refine wpList_build_eq rfl 38 _ rfl [(0, .int .u64 (r : Int)), (1, .int .u64 (s : Int))] rfl (sigC r s) (bSig2 r s) ?_) | (refine wpList_store_whole rfl 38 _ _ rfl b rfl (sigC r s) (sigC 0 0) 38 rfl B9.out rfl (sigC_one r s) (sizeSigN r s) ?_))
  intro w10 g10 s10 b10
  have B10 := Lib.hid b10; have G10 := Lib.hid (grown_new G9.out g10 (by rw [HB.out]; exact Nat.le_refl _))
  clear b10 g10 s10
  go_wp2_with fail
  refine bodyPost_ret (results_cell_tmp rfl _ _ ⟨b, 0, none⟩ _ _ rfl rfl (run_loadVar_part _ _ _ 38 (sigC r s) _ B10.out.row Tryz.underlying38 rfl (sizeSigN r s))) rfl ?_
  rw [Hr.out, Hs.out]
  exact ⟨rfl, G10.out⟩

def vfyL (key : Nat) (m : List UInt8) (r s : Nat) : Bool := (decide (1 ≤ key) && decide (key < pP)) && ((decide (1 ≤ r) && decide (r < pP)) && (decide (s < pQ) && decide (pw 37 s = r * pw key (chalL r key m) % pP)))
theorem in_ok (n : Nat) (w : World) : Calls Tryz.prog 141 #[.int .u64 (n : Int)] w fun e w' => e = .returned (.bool (decide (1 ≤ n) && decide (n < pP))) ∧ w = w' := by
  cases q1 : decide ((1 : Int) ≤ (n : Int)) with
  | true =>
    have h1 : decide (1 ≤ n) = true := by simp at q1 ⊢; omega
    rw [h1, Bool.true_and]
    cases q2 : decide ((n : Int) < 2305843009213693951) with
    | true =>
      have h2 : decide (n < pP) = true := by unfold pP; simp at q2 ⊢; omega
      rw [h2]
      have q3 : decide (1 ≤ n) = true := h1
      clear h2
      go_enter Tryz.func141, Tryz.ntmps141
      go_wp2
      go_ret
      exact ⟨rfl, rfl⟩
    | false =>
      have h2 : decide (n < pP) = false := by unfold pP; simp at q2 ⊢; omega
      rw [h2]
      have q3 : decide (1 ≤ n) = true := h1
      clear h2
      go_enter Tryz.func141, Tryz.ntmps141
      go_wp2
      go_ret
      exact ⟨rfl, rfl⟩
  | false =>
    have h1 : decide (1 ≤ n) = false := by simp at q1 ⊢; omega
    rw [h1, Bool.false_and]
    obtain rfl : n = 0 := by simp at q1; omega
    clear q1 h1
    go_enter Tryz.func141, Tryz.ntmps141
    go_wp2
    go_ret
    exact ⟨rfl, rfl⟩

theorem beq_cast (a b : Nat) : ((a : Int) == (b : Int)) = decide (a = b) := by
  rw [Bool.eq_iff_iff]; simp only [beq_iff_eq, decide_eq_true_eq]; omega
set_option maxHeartbeats 2000000 in
theorem Verify_ok (key r s : Nat) (m : List UInt8) (v : Value) (w : World) (hk : key < 18446744073709551616) (hr : r < 18446744073709551616) (hs : s < 18446744073709551616) (hv : RdB w v m) (hm : m.length < 4611686018427387000)
    (hR : RowAt w 3 0 (wCells rootsL)) :
    Calls Tryz.prog 101 #[.int .u64 (key : Int), v, .agg (sigC r s).toArray] w fun e w' => e = .returned (.bool (vfyL key m r s)) ∧ w.grownBy w' none := by
  obtain ⟨ao, c, hv0, _⟩ := id hv
  subst hv0
  have HV := Lib.hid hv; have HR := Lib.hid hR; have Hm := Lib.hid hm; have Hk := Lib.hid hk; have Hr := Lib.hid hr; have Hs := Lib.hid hs
  clear hv hR hm hk hr hs
  go_enter Tryz.func101, Tryz.ntmps101
  go_wp2_with (refine wpList_box_as rfl 38 _ rfl (sigC r s) rfl ?_)
  intro w1 b1 g1 s1
  obtain ⟨b, hb⟩ : ∃ b, w.heap.size = b := ⟨_, rfl⟩
  rw [hb] at b1 ⊢
  have B1 := Lib.hid b1; have G1 := Lib.hid g1
  have c0 := b1.row 0 _ rfl; have c1 := b1.row 1 _ rfl
  rw [Nat.zero_add] at c0 c1
  clear b1 g1 s1 hb
  cases h1 : (decide (1 ≤ key) && decide (key < pP)) with
  | false =>
    have C := in_ok key w1
    rw [h1] at C
    have E := Lib.hid (show vfyL key m r s = false by unfold vfyL; rw [h1]; rfl)
    have HC := Lib.hid C
    clear C h1
    go_wp2_with (go_at_call 141; refine HC.out.mono ?_; rintro e w' ⟨rfl, rfl⟩)
    go_ret
    rw [E.out]
    exact ⟨rfl, G1.out⟩
  | true =>
    have C := in_ok key w1
    rw [h1] at C
    have HC := Lib.hid C; have H1 := Lib.hid h1
    clear C h1
    cases h2 : (decide (1 ≤ r) && decide (r < pP)) with
    | false =>
      have D := in_ok r w1
      rw [h2] at D
      have E := Lib.hid (show vfyL key m r s = false by unfold vfyL; rw [H1.out, h2]; rfl)
      have HD := Lib.hid D
      clear D h2
      go_wp2_with (go_at_call 141; first | ((with_reducible refine HC.out.mono ?_); rintro e w' ⟨rfl, rfl⟩) | ((with_reducible refine HD.out.mono ?_); rintro e w' ⟨rfl, rfl⟩))
      go_ret
      rw [E.out]
      exact ⟨rfl, G1.out⟩
    | true =>
      have D := in_ok r w1
      rw [h2] at D
      have HD := Lib.hid D; have H2 := Lib.hid h2
      clear D h2
      cases h3 : decide ((2305843009213693950 : Int) ≤ (s : Int)) with
      | true =>
        have h4 : decide (s < pQ) = false := by unfold pQ; simp at h3 ⊢; omega
        have E := Lib.hid (show vfyL key m r s = false by unfold vfyL; rw [H1.out, H2.out, h4]; rfl)
        clear h4
        go_wp2_with (go_at_call 141; first | ((with_reducible refine HC.out.mono ?_); rintro e w' ⟨rfl, rfl⟩) | ((with_reducible refine HD.out.mono ?_); rintro e w' ⟨rfl, rfl⟩))
        go_ret
        rw [E.out]
        exact ⟨rfl, G1.out⟩
      | false =>
        have h4 : decide (s < pQ) = true := by unfold pQ; simp at h3 ⊢; omega
        have E := Lib.hid (show vfyL key m r s = decide (pw 37 s = r * pw key (chalL r key m) % pP) by unfold vfyL; rw [H1.out, H2.out, h4]; rfl)
        clear h4
        go_wp2_with (go_at_call 141; first | ((with_reducible refine HC.out.mono ?_); rintro e w' ⟨rfl, rfl⟩) | ((with_reducible refine HD.out.mono ?_); rintro e w' ⟨rfl, rfl⟩))
        obtain ⟨ch, hch⟩ : ∃ n, chalL r key m = n := ⟨_, rfl⟩
        have Chl := Lib.hid (show ch < 2305843009213693950 by rw [← hch]; exact chalL_lt _ _ _)
        obtain ⟨p1, hp1⟩ : ∃ n, pw 37 s = n := ⟨_, rfl⟩
        obtain ⟨p2, hp2⟩ : ∃ n, pw key ch = n := ⟨_, rfl⟩
        obtain ⟨p3, hp3⟩ : ∃ n, r * p2 % 2305843009213693951 = n := ⟨_, rfl⟩
        have P2 := Lib.hid (show p2 < 18446744073709551616 by rw [← hp2]; exact pw_u64 _ _)
        rw [hch, hp1, hp2, show pP = 2305843009213693951 from rfl, hp3] at E
        have K1 := Lib.hid (show ∀ w, Calls Tryz.prog 58 #[.int .u64 37, .int .u64 (s : Int)] w (Drew (.int .u64 ((pw 37 s : Nat) : Int)) w) from fun w => Power_ok 37 s w (by omega) Hs.out)
        have K2 := Lib.hid (fun w (g : w1.grownBy w none) => challenge_ok r key m _ w Hr.out Hk.out (HV.out.grown (Lib.grownBy_trans G1.out g)) Hm.out (HR.out.grown (Lib.grownBy_trans G1.out g) (by simp)))
        have K3 := Lib.hid (fun w => Power_ok key ch w Hk.out (by have := Chl.out; omega))
        have K4 := Lib.hid (fun w => times_p r p2 w Hr.out P2.out)
        rw [hch] at K2
        rw [hp1] at K1
        rw [hp2] at K3
        rw [hp3] at K4
        clear hch hp1 hp2 hp3
        have d0 : w1.drew.cell? ⟨b, 0, none⟩ = some (.int .u64 (r : Int)) := c0
        have d1 : w1.drew.cell? ⟨b, 1, none⟩ = some (.int .u64 (s : Int)) := c1
        clear HC HD H1 H2 h3
        have hg0 := drew_keep (World.grownBy.refl w1 none)
        go_region_held3 (fun w' => w'.cell? ⟨b, 0, none⟩ = some (.int .u64 (r : Int)) ∧ w'.cell? ⟨b, 1, none⟩ = some (.int .u64 (s : Int))) (first | exact ⟨by with_reducible assumption, by with_reducible assumption⟩) (first | (go_at_call 58; (with_reducible refine (K1.out w1.drew).mono ?_); rintro e w2 ⟨rfl, n2, hw2⟩; have k2 := Lib.grownBy_trans hg0 (hw2 ▸ drew_grown w1.drew n2); clear hw2; have c2 := k2.cell (a := ⟨b, 0, none⟩) c0 (by simp); have c3 := k2.cell (a := ⟨b, 1, none⟩) c1 (by simp)) | (go_at_call 106; (with_reducible refine (K2.out w2 k2).mono ?_); rintro e w3 ⟨rfl, g3⟩; have k3 := Lib.grownBy_trans k2 g3; have c4 := k3.cell (a := ⟨b, 0, none⟩) c0 (by simp); have c5 := k3.cell (a := ⟨b, 1, none⟩) c1 (by simp)) | (go_at_call 58; (with_reducible refine (K3.out w3).mono ?_); rintro e w4 ⟨rfl, n4, hw4⟩; have k4 := Lib.grownBy_trans k3 (hw4 ▸ drew_grown w3 n4); clear hw4; have c6 := k4.cell (a := ⟨b, 0, none⟩) c0 (by simp); have c7 := k4.cell (a := ⟨b, 1, none⟩) c1 (by simp)) | (go_at_call 89; (with_reducible refine (K4.out w4).mono ?_); rintro e w5 ⟨rfl, n5, hw5⟩; have k5 := Lib.grownBy_trans k4 (hw5 ▸ drew_grown w4 n5); clear hw5; have c8 := k5.cell (a := ⟨b, 0, none⟩) c0 (by simp); have c9 := k5.cell (a := ⟨b, 1, none⟩) c1 (by simp)))
        all_goals
          go_wp2
          go_ret
          rw [E.out, ← beq_cast]
          exact ⟨rfl, Lib.grownBy_trans G1.out k5⟩

end Go.Proofs.YtcbkehnlgpcelaaGreatDoor
