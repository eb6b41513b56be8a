/- Plain law: powers modulo the prime, a signature's law, a long division. Walks of bits.Div64 at the two moduli; schnorr.times, schnorr.Power. Walks: schnorr.times, schnorr.Power. Walks: schnorr.word, number, Key, challenge. Walks: schnorr.challenge, Key, Sign, Verify. Walks: schnorr.Sign, Verify. Walk: schnorr.Verify. -/
import Derived.Test.YtlahdaanfhedoaaDoorBase
import Derived.Test.YtlahdaanfhedoaaDoorShelf
import Derived.Deep.QuietTactic
import Derived.BigQuiet
import Derived.Deep.Cut
import Derived.Deep.CutRange
import Derived.Test.YtlahdaanfhedoaaDoorHsh
import Derived.Test.YtlahdaanfhedoaaDoorRead
import Derived.Deep.RegionHeld3
namespace Go.Proofs.YtlahdaanfhedoaaDoor
set_option maxRecDepth 100000

/-- the prime, and the order -/
def pP : Nat := 2305843009213693951
def pQ : Nat := 2305843009213693950
/-- a power -/
def pw (b e : Nat) : Nat := b ^ e % pP
theorem pw_lt (b e : Nat) : pw b e < pP := Nat.mod_lt _ (by unfold pP; omega)
theorem pw_zero (b : Nat) : pw b 0 = 1 := rfl
theorem pow_mod_mod (b e m : Nat) : (b % m) ^ e % m = b ^ e % m := (Nat.pow_mod b e m).symm
theorem pw_base (b e : Nat) : pw (b % pP) e = pw b e := pow_mod_mod b e pP
theorem pw_add (b d e : Nat) : pw b (d + e) = pw b d * pw b e % pP := by
  unfold pw; rw [Nat.pow_add, Nat.mul_mod]
theorem pw_mul (b d e : Nat) : pw b (d * e) = pw (pw b d) e := by
  unfold pw; rw [Nat.pow_mul, Nat.pow_mod]
/-- by squaring, from the right -/
theorem pw_half (n b e : Nat) : n * b ^ e % pP = ((if e % 2 = 1 then n * b % pP else n) * (b * b % pP) ^ (e / 2)) % pP := by
  have h2 : b ^ e = (b * b) ^ (e / 2) * b ^ (e % 2) := by
    rw [← Nat.pow_two, ← Nat.pow_mul, ← Nat.pow_add, Nat.div_add_mod]
  have h3 : (b * b) ^ (e / 2) % pP = (b * b % pP) ^ (e / 2) % pP := Nat.pow_mod _ _ _
  generalize (b * b) ^ (e / 2) = x at *
  generalize (b * b % pP) ^ (e / 2) = y at *
  rw [h2]
  split
  · rename_i h
    rw [h, Nat.pow_one]
    rw [Nat.mul_mod (n * b % pP), Nat.mod_mod, ← h3, ← Nat.mul_mod, Nat.mul_assoc, Nat.mul_comm b x]
  · rename_i h
    rw [show e % 2 = 0 by omega, Nat.pow_zero, Nat.mul_one, Nat.mul_mod, h3, ← Nat.mul_mod]
/-- from the left -/
theorem pw_bit (b e k : Nat) : pw b (e / 2 ^ k) = if e / 2 ^ k % 2 = 1 then pw b (e / 2 ^ (k + 1)) * pw b (e / 2 ^ (k + 1)) % pP * (b % pP) % pP else pw b (e / 2 ^ (k + 1)) * pw b (e / 2 ^ (k + 1)) % pP := by
  have h : e / 2 ^ (k + 1) = e / 2 ^ k / 2 := by rw [Nat.pow_succ, Nat.div_div_eq_div_mul]
  rw [h]
  generalize e / 2 ^ k = d
  have h2 : d = d / 2 + d / 2 + d % 2 := by omega
  split
  · rename_i h1
    conv => lhs; rw [h2, h1, pw_add, pw_add]
    unfold pw
    rw [Nat.pow_one]
  · rename_i h1
    conv => lhs; rw [h2, show d % 2 = 0 by omega, Nat.add_zero, pw_add]
theorem pw_big (b e : Nat) (h : e < 2 ^ 64) : pw b (e / 2 ^ 64) = 1 := by rw [Nat.div_eq_of_lt h]; rfl
/-- a product, bit by bit -/
theorem mulm_bit (a b m k : Nat) : a * (b / 2 ^ k) % m = if b / 2 ^ k % 2 = 1 then (2 * (a * (b / 2 ^ (k + 1)) % m) % m + a) % m else 2 * (a * (b / 2 ^ (k + 1)) % m) % m := by
  have h : b / 2 ^ (k + 1) = b / 2 ^ k / 2 := by rw [Nat.pow_succ, Nat.div_div_eq_div_mul]
  rw [h]
  generalize b / 2 ^ k = d
  have e0 : a * d = 2 * (a * (d / 2)) + a * (d % 2) := by
    rw [Nat.mul_left_comm, ← Nat.mul_add, Nat.div_add_mod]
  rw [e0]
  split
  · rename_i h1
    rw [h1, Nat.mul_one, Nat.add_mod (2 * (a * (d / 2) % m) % m), Nat.mod_mod, Nat.mul_mod 2 (a * (d / 2) % m), Nat.mod_mod, ← Nat.mul_mod, ← Nat.add_mod]
  · rename_i h1
    rw [show d % 2 = 0 by omega, Nat.mul_zero, Nat.add_zero, Nat.mul_mod 2 (a * (d / 2) % m), Nat.mod_mod, ← Nat.mul_mod]
/-- reckoned fast -/
def fpow : Nat → Nat → Nat → Nat → Nat
  | 0, n, _, _ => n
  | f + 1, n, b, e => fpow f (if e % 2 = 1 then n * b % pP else n) (b * b % pP) (e / 2)
theorem fpow_ok : ∀ (f n b e : Nat), n < pP → e < 2 ^ f → fpow f n b e = n * b ^ e % pP := by
  intro f
  induction f with
  | zero => intro n b e hn he; obtain rfl : e = 0 := by omega
            simp [fpow, Nat.mod_eq_of_lt hn]
  | succ f ih =>
    intro n b e hn he
    unfold fpow
    rw [ih _ _ _ (by split; exact Nat.mod_lt _ (by unfold pP; omega); exact hn) (by rw [Nat.pow_succ] at he; omega), ← pw_half]
theorem pw_fast (b e : Nat) (he : e < 2 ^ 64) : pw b e = fpow 64 1 b e := by
  rw [fpow_ok 64 1 b e (by unfold pP; omega) he, Nat.one_mul]; rfl
theorem gen_order : pw 37 pQ = 1 := by
  rw [pw_fast 37 pQ (by unfold pQ; omega)]
  decide +kernel
theorem pw_mod_order (k : Nat) : pw 37 (k % pQ) = pw 37 k := by
  conv => rhs; rw [← Nat.div_add_mod k pQ, pw_add, pw_mul, gen_order]
  unfold pw
  rw [Nat.one_pow]
  show 37 ^ (k % pQ) % pP = (1 % pP) * (37 ^ (k % pQ) % pP) % pP
  rw [show 1 % pP = 1 from rfl, Nat.one_mul, Nat.mod_mod]
/-- what is signed is well signed -/
theorem schnorr_right (x k c : Nat) : pw 37 ((k + c * x % pQ) % pQ) = pw 37 k * pw (pw 37 x) c % pP := by
  rw [pw_mod_order, ← pw_mul, Nat.mul_comm x c]
  rw [pw_add, pw_mod_order]

/-- one digit of a long division: the guess, and what is over -/
def KInv (u yn1 yn0 u1 q r : Nat) : Prop := q * yn1 + r = u ∧ (u * 4294967296 + u1) / (yn1 * 4294967296 + yn0) ≤ q

theorem knuth_q' (u y u1 : Nat) (hy : u < y) (h1 : u1 < 4294967296) : (u * 4294967296 + u1) / y < 4294967296 := by
  rw [Nat.div_lt_iff_lt_mul (by omega)]
  have : (u + 1) * 4294967296 ≤ y * 4294967296 := Nat.mul_le_mul_right _ (by omega)
  omega
theorem knuth_q (u yn1 yn0 u1 : Nat) (hy : u < yn1 * 4294967296 + yn0) (h1 : u1 < 4294967296) :
    (u * 4294967296 + u1) / (yn1 * 4294967296 + yn0) < 4294967296 := knuth_q' u _ u1 hy h1

theorem knuth_start (u yn1 yn0 u1 : Nat) (h0 : 0 < yn1) (h1 : u1 < 4294967296) : KInv u yn1 yn0 u1 (u / yn1) (u % yn1) := by
  refine ⟨Nat.div_add_mod' u yn1, ?_⟩
  rw [Nat.div_le_iff_le_mul_add_pred (by omega)]
  have e : u = yn1 * (u / yn1) + u % yn1 := (Nat.div_add_mod u yn1).symm
  have hr := Nat.mod_lt u h0
  generalize u / yn1 = q at *
  generalize u % yn1 = r at *
  have e2 : (yn1 * 4294967296 + yn0) * q = yn1 * q * 4294967296 + yn0 * q := by
    rw [Nat.add_mul, Nat.mul_right_comm]
  rw [e2]
  generalize yn1 * q = a at *
  generalize yn0 * q = b at *
  omega

/-- too much: a step -/
theorem knuth_step (u yn1 yn0 u1 q r : Nat) (hi : KInv u yn1 yn0 u1 q r) (hy : u < yn1 * 4294967296 + yn0) (h1 : u1 < 4294967296)
    (h : 4294967296 ≤ q ∨ 4294967296 * r + u1 < q * yn0) : KInv u yn1 yn0 u1 (q - 1) (r + yn1) ∧ 0 < q := by
  obtain ⟨e, hq⟩ := hi
  have hq0 : 0 < q := by
    rcases h with h | h
    · omega
    · rcases Nat.eq_zero_or_pos q with rfl | h0
      · simp at h
      · exact h0
  have hlt := knuth_q u yn1 yn0 u1 hy h1
  refine ⟨⟨?_, ?_⟩, hq0⟩
  · obtain ⟨p, rfl⟩ : ∃ p, q = p + 1 := ⟨q - 1, by omega⟩
    rw [Nat.add_mul] at e
    simp only [Nat.add_sub_cancel]
    omega
  · rcases h with h | h
    · omega
    · have : (u * 4294967296 + u1) / (yn1 * 4294967296 + yn0) < q := by
        rw [Nat.div_lt_iff_lt_mul (by omega), ← e]
        have e2 : q * (yn1 * 4294967296 + yn0) = q * yn1 * 4294967296 + q * yn0 := by rw [Nat.mul_add, Nat.mul_assoc]
        rw [e2]
        generalize q * yn1 = a at *
        generalize q * yn0 = b at *
        omega
      omega
/-- enough -/
theorem knuth_end (u yn1 yn0 u1 q r : Nat) (hi : KInv u yn1 yn0 u1 q r) (hy0 : yn0 < 4294967296) (hy : u < yn1 * 4294967296 + yn0)
    (h : 4294967296 ≤ r ∨ (q < 4294967296 ∧ q * yn0 ≤ 4294967296 * r + u1)) : q = (u * 4294967296 + u1) / (yn1 * 4294967296 + yn0) := by
  obtain ⟨e, hq⟩ := hi
  refine Nat.le_antisymm ?_ hq
  rw [Nat.le_div_iff_mul_le (by omega)]
  have e2 : q * (yn1 * 4294967296 + yn0) = q * yn1 * 4294967296 + q * yn0 := by rw [Nat.mul_add, Nat.mul_assoc]
  rw [e2, ← e]
  have h3 : q * yn0 ≤ 4294967296 * r + u1 := by
    rcases h with h | h
    · have hql : q < 4294967296 := by
        rcases Nat.lt_or_ge q 4294967296 with h4 | h4
        · exact h4
        · have := Nat.mul_le_mul_right yn1 h4
          omega
      have := Nat.mul_le_mul (show q ≤ 4294967295 by omega) (show yn0 ≤ 4294967295 by omega)
      omega
    · exact h.2
  generalize q * yn1 = a at *
  generalize q * yn0 = b at *
  omega
theorem knuth_bound (u yn1 yn0 u1 q r : Nat) (hi : KInv u yn1 yn0 u1 q r) (hn : 2147483648 ≤ yn1) (hy0 : yn0 < 4294967296) (hy : u < yn1 * 4294967296 + yn0) : q < 4294967299 := by
  obtain ⟨e, _⟩ := hi
  rcases Nat.lt_or_ge q 4294967299 with h4 | h4
  · exact h4
  · have := Nat.mul_le_mul_right yn1 h4
    omega
/-- what is left over -/
theorem knuth_rest (N y : Nat) (_hy : y < 18446744073709551616) (hy0 : 0 < y) : ((N : Int) - (N / y : Nat) * (y : Int)) = ((N % y : Nat) : Int) ∧ N % y < y := by
  refine ⟨?_, Nat.mod_lt _ hy0⟩
  have := Nat.div_add_mod N y
  have e : ((N / y : Nat) : Int) * (y : Int) = ((y * (N / y) : Nat) : Int) := by rw [Nat.mul_comm]; simp
  rw [e]
  generalize y * (N / y) = a at *
  omega
/-- two digits -/
theorem div_two (N y s hi lo : Nat) (_hs : N = hi * 18446744073709551616 + lo) (k : Nat) (hk : s = 2 ^ k) : N * s / (y * s) = N / y ∧ N * s % (y * s) / s = N % y := by
  have h0 : 0 < s := hk ▸ Nat.two_pow_pos k
  refine ⟨Nat.mul_div_mul_right _ _ h0, ?_⟩
  rw [Nat.mul_mod_mul_right, Nat.mul_div_cancel _ h0]
theorem div_digits (M y u0 : Nat) :
    (M * 4294967296 + u0) / y = M / y * 4294967296 + (M % y * 4294967296 + u0) / y ∧
    (M * 4294967296 + u0) % y = (M % y * 4294967296 + u0) % y := by
  rcases Nat.eq_zero_or_pos y with rfl | hy
  · simp
  have e := Nat.div_add_mod M y
  generalize hq : M / y = q at *
  generalize hr : M % y = r at *
  have e3 : M * 4294967296 + u0 = (r * 4294967296 + u0) + y * (q * 4294967296) := by
    rw [← e, Nat.add_mul, Nat.mul_assoc]; omega
  rw [e3, Nat.add_mul_div_left _ _ hy, Nat.add_mul_mod_self_left]
  exact ⟨by omega, rfl⟩
open Go.RowKit

theorem u64_in (n : Int) (h0 : 0 ≤ n) (h1 : n < 18446744073709551616) : IntKind.u64.wrap n = n := by
  simp [IntKind.wrap, IntKind.signed, IntKind.bits]; omega
theorem u64_mod (n : Nat) : IntKind.u64.wrap (n : Int) = ((n % 18446744073709551616 : Nat) : Int) := by
  simp [IntKind.wrap, IntKind.signed, IntKind.bits]
theorem or_div3 (hi lo : Nat) (hl : lo < 18446744073709551616) (hh : hi < 2305843009213693952) :
    bits .or .u64 ((hi : Int) * 8) ((lo : Int) / 2305843009213693952) = ((hi * 8 + lo / 2305843009213693952 : Nat) : Int) := by
  have h7 : lo / 2305843009213693952 < 2 ^ 3 := by omega
  have e1 : ((hi : Int) * 8) = ((hi * 2 ^ 3 : Nat) : Int) := by simp
  have e2 : ((lo : Int) / 2305843009213693952) = ((lo / 2305843009213693952 : Nat) : Int) := by simp
  rw [e1, e2]
  have h8 : hi * 2 ^ 3 ||| lo / 2305843009213693952 = hi * 2 ^ 3 + lo / 2305843009213693952 := by
    rw [Nat.mul_comm, Nat.two_pow_add_eq_or_of_lt h7]
  rw [bits_or_u64_nat _ _ (by omega) (by omega), h8]

theorem wrap_sub (A c X M : Nat) (e : X + M = A + c) (hM : M < 18446744073709551616) :
    IntKind.u64.wrap (((A % 18446744073709551616 + c) % 18446744073709551616 : Nat) - ((X % 18446744073709551616 : Nat) : Int)) = (M : Int) := by
  rw [IntKind.wrap_u64]
  omega
/-- what is left over behind a digit, as the words reckon it -/
theorem fin1 (u c x y : Nat) (hx : x = (u * 4294967296 + c) / (y * 8)) (hy : 0 < y) (hy2 : y < 2305843009213693952) :
    ∃ U1 U2 U3 M : Nat, IntKind.u64.wrap ((u : Int) * 4294967296) = (U1 : Int) ∧ IntKind.u64.wrap ((U1 : Int) + (c : Int)) = (U2 : Int) ∧ IntKind.u64.wrap ((x : Int) * ((y : Int) * 8)) = (U3 : Int) ∧
      IntKind.u64.wrap ((U2 : Int) - (U3 : Int)) = (M : Int) ∧ M = (u * 4294967296 + c) % (y * 8) := by
  have e := Nat.div_add_mod (u * 4294967296 + c) (y * 8)
  have hm := Nat.mod_lt (u * 4294967296 + c) (show 0 < y * 8 by omega)
  rw [← hx] at e
  refine ⟨u * 4294967296 % 18446744073709551616, (u * 4294967296 % 18446744073709551616 + c) % 18446744073709551616, x * (y * 8) % 18446744073709551616, (u * 4294967296 + c) % (y * 8), ?_, ?_, ?_, ?_, rfl⟩
  · rw [show ((u : Int) * 4294967296) = ((u * 4294967296 : Nat) : Int) by simp, u64_mod]
  · rw [← Int.natCast_add, u64_mod]
  · rw [show ((x : Int) * ((y : Int) * 8)) = ((x * (y * 8) : Nat) : Int) by simp, u64_mod]
  · exact wrap_sub (u * 4294967296) c (x * (y * 8)) _ (by rw [Nat.mul_comm x]; exact e) (by omega)
/-- the guess of a digit, as the words reckon it -/
theorem fin2 (M a b d : Nat) (ha : 0 < a) (ha2 : a < 4294967296) (hM : M < 18446744073709551616) (hd : d < 4294967296) :
    ∃ q p r : Nat, IntKind.u64.wrap ((M : Int) / (a : Int)) = (q : Int) ∧ IntKind.u64.wrap ((q : Int) * (a : Int)) = (p : Int) ∧ IntKind.u64.wrap ((M : Int) - (p : Int)) = (r : Int) ∧ KInv M a b d q r ∧ r < 4294967296 := by
  have hs := knuth_start M a b d ha hd
  have hm := Nat.mod_lt M ha
  have e := hs.1
  have hq := Nat.div_le_self M a
  refine ⟨M / a, M / a * a, M % a, ?_, ?_, ?_, hs, by omega⟩
  · rw [← Int.natCast_ediv]; exact u64_in _ (Int.natCast_nonneg _) (by omega)
  · rw [← Int.natCast_mul]; exact u64_in _ (Int.natCast_nonneg _) (by omega)
  · rw [show ((M : Int) - ((M / a * a : Nat) : Int)) = ((M % a : Nat) : Int) by omega]; exact u64_in _ (Int.natCast_nonneg _) (by omega)
/-- both digits -/
theorem fin3 (hi lo y u c d M x z L : Nat) (hl : lo < 18446744073709551616) (hh : hi < y) (hu : hi * 8 + lo / 2305843009213693952 = u) (hL : lo * 8 % 18446744073709551616 = L) (hc : L / 4294967296 = c) (hd : L % 4294967296 = d)
    (hx : x = (u * 4294967296 + c) / (y * 8)) (hM : M = (u * 4294967296 + c) % (y * 8)) (hz : z = (M * 4294967296 + d) / (y * 8)) :
    x * 4294967296 + z = (hi * 18446744073709551616 + lo) / y ∧ (M * 4294967296 + d) % (y * 8) / 8 = (hi * 18446744073709551616 + lo) % y ∧ x * 4294967296 + z < 18446744073709551616 := by
  have hN : (hi * 18446744073709551616 + lo) * 8 = (u * 4294967296 + c) * 4294967296 + d := by omega
  obtain ⟨e1, e2⟩ := div_two (hi * 18446744073709551616 + lo) y 8 hi lo rfl 3 rfl
  obtain ⟨e3, e4⟩ := div_digits (u * 4294967296 + c) (y * 8) d
  rw [hN, e3, ← hx, ← hM, ← hz] at e1
  rw [hN, e4, ← hM] at e2
  refine ⟨e1, e2, ?_⟩
  rw [e1]
  rw [Nat.div_lt_iff_lt_mul (by omega)]
  have := Nat.mul_le_mul_right 18446744073709551616 (show hi + 1 ≤ y by omega)
  rw [Nat.mul_comm 18446744073709551616]
  omega

def KRel (u a b c : Nat) (x z : Value) : Prop := ∃ q r : Nat, KInv u a b c q r ∧ r < 4294967296 ∧ x = .int .u64 (q : Int) ∧ z = .int .u64 (r : Int)

theorem drew_trans {w : World} {a b : Nat} : (w.drewN a).drewN b = w.drewN (a + b) := by simp [World.drewN, Nat.add_assoc]
theorem drew_grown (w : World) (n : Nat) : w.grownBy (w.drewN n) none := ⟨rfl, rfl, rfl, Nat.le_refl _, fun _ _ _ => rfl⟩
def Drew (v : Value) (w : World) (e : Ending) (w' : World) : Prop := e = .returned v ∧ ∃ n, w' = w.drewN n

theorem mul_hi (x y m : Nat) (hx : x < m) (hy : y < m) (hm : m ≤ 2305843009213693951) :
    x * y / 18446744073709551616 < 2305843009213693950 ∧ x * y / 18446744073709551616 * 18446744073709551616 + x * y % 18446744073709551616 = x * y := by
  have := Nat.mul_le_mul (show x ≤ 2305843009213693950 by omega) (show y ≤ 2305843009213693950 by omega)
  refine ⟨by omega, ?_⟩
  have := Nat.div_add_mod (x * y) 18446744073709551616
  omega

def PwRel (t : Nat) (w : World) (bv ev nv : Value) (wr : World) : Prop := ∃ b e n k : Nat, b < 18446744073709551616 ∧ e < 18446744073709551616 ∧ n < pP ∧ n * b ^ e % pP = t ∧
  bv = .int .u64 (b : Int) ∧ ev = .int .u64 (e : Int) ∧ nv = .int .u64 (n : Int) ∧ wr = w.drewN k
theorem and_1 (e : Nat) (h : e < 18446744073709551616) : bits .and .u64 (e : Int) 1 = ((e % 2 : Nat) : Int) := by rw [and_one_u64 _ (by omega) (by omega)]; simp

theorem be_get : ∀ (k n i : Nat) (_h : i < k), (be k n)[i]? = some (UInt8.ofNat (n / 256 ^ (k - 1 - i)))
  | 0, _, _, h => by omega
  | k + 1, n, 0, _ => by simp [be]
  | k + 1, n, i + 1, h => by
    rw [be, List.getElem?_cons_succ, be_get k n i (by omega)]
    congr 4
    omega
theorem drew_keep {w w' : World} {row : Option Nat} (h : w.grownBy w' row) : w.grownBy w'.drew row := ⟨h.os, h.tape, h.output, h.size, h.block⟩
def wordC (n k : Nat) : List UInt8 := (be 8 n).take k ++ List.replicate (8 - k) 0
theorem wordC_len (n k : Nat) (h : k ≤ 8) : (wordC n k).length = 8 := by simp [wordC, be_length]; omega
theorem wordC_set (n k : Nat) (h : k < 8) : (Lib.byteCells (wordC n k)).set k (.int .u8 ((UInt8.ofNat (n / 256 ^ (7 - k))).toNat : Int)) = Lib.byteCells (wordC n (k + 1)) := by
  refine List.ext_getElem? fun j => ?_
  have hb : (be 8 n)[k]? = some (UInt8.ofNat (n / 256 ^ (7 - k))) := by rw [be_get 8 n k h, show 8 - 1 - k = 7 - k by omega]
  have hl := be_length 8 n
  by_cases hj : j < 8
  · by_cases e : k = j
    · subst e
      rw [List.getElem?_set_self (by rw [Lib.byteCells_length, wordC_len n k (by omega)]; omega)]
      unfold Lib.byteCells wordC
      rw [List.getElem?_map, List.getElem?_append_left (by rw [List.length_take]; omega), List.getElem?_take_of_lt (by omega), hb]
      rfl
    · rw [List.getElem?_set_ne e]
      unfold Lib.byteCells wordC
      rw [List.getElem?_map, List.getElem?_map]
      by_cases h2 : j < k
      · rw [List.getElem?_append_left (by rw [List.length_take]; omega), List.getElem?_append_left (by rw [List.length_take]; omega), List.getElem?_take_of_lt h2, List.getElem?_take_of_lt (by omega)]
      · rw [List.getElem?_append_right (by rw [List.length_take]; omega), List.getElem?_append_right (by rw [List.length_take]; omega), List.getElem?_replicate, List.getElem?_replicate, List.length_take, List.length_take]
        rw [if_pos (by omega), if_pos (by omega)]
  · rw [List.getElem?_eq_none (by rw [List.length_set, Lib.byteCells_length, wordC_len n k (by omega)]; omega), List.getElem?_eq_none (by rw [Lib.byteCells_length, wordC_len n (k + 1) (by omega)]; omega)]
def Z8b : List Value := Lib.byteCells (List.replicate 8 0)
theorem size_u8 : (Tryd.prog.info? 5).map (·.size) = some 1 := by kernel_rfl

def numL (h : List UInt8) : Nat := ofBe (h.take 8) % pQ
theorem numL_lt (h : List UInt8) : numL h < pQ := Nat.mod_lt _ (by unfold pQ; omega)
theorem join_len (_tag : UInt8) (ls : List (List UInt8)) {n : Nat} (h : ls.flatten.length = n) : ls.flatten.length = n := h
/-- three slices in a row of the call's own -/
theorem rdl_three (w : World) (u1 u2 u3 : Value) (l1 l2 l3 : List UInt8) (T : TypeId) (h1 : RdB w u1 l1) (h2 : RdB w u2 l2) (h3 : RdB w u3 l3) :
    ∃ W, w.alloc (.cells #[u1, u2, u3] T) = W ∧ RdL W (.slice (some ⟨w.heap.size, 0, none⟩) 3 3) [l1, l2, l3] ∧ w.grownBy W none := by
  have g : w.grownBy (w.alloc (.cells #[u1, u2, u3] T)) none := World.grownBy_alloc w _ none
  refine ⟨_, rfl, ⟨_, 3, [u1, u2, u3], rfl, Nat.le_refl _, by simp [maxLen], rfl, fun i l' hi => ?_, Or.inr ⟨_, 0, rfl, by simp, RowAt_box w [u1, u2, u3] T⟩⟩, g⟩
  match i, hi with
  | 0, hi => injection hi with hi; subst hi; exact ⟨_, rfl, h1.grown g⟩
  | 1, hi => injection hi with hi; subst hi; exact ⟨_, rfl, h2.grown g⟩
  | 2, hi => injection hi with hi; subst hi; exact ⟨_, rfl, h3.grown g⟩
  | i + 3, hi => simp at hi
theorem rdl_two (w : World) (u1 u2 : Value) (l1 l2 : List UInt8) (T : TypeId) (h1 : RdB w u1 l1) (h2 : RdB w u2 l2) :
    ∃ W, w.alloc (.cells #[u1, u2] T) = W ∧ RdL W (.slice (some ⟨w.heap.size, 0, none⟩) 2 2) [l1, l2] ∧ w.grownBy W none := by
  have g : w.grownBy (w.alloc (.cells #[u1, u2] T)) none := World.grownBy_alloc w _ none
  refine ⟨_, rfl, ⟨_, 2, [u1, u2], rfl, Nat.le_refl _, by simp [maxLen], rfl, fun i l' hi => ?_, Or.inr ⟨_, 0, rfl, by simp, RowAt_box w [u1, u2] T⟩⟩, g⟩
  match i, hi with
  | 0, hi => injection hi with hi; subst hi; exact ⟨_, rfl, h1.grown g⟩
  | 1, hi => injection hi with hi; subst hi; exact ⟨_, rfl, h2.grown g⟩
  | i + 2, hi => simp at hi

def chalL (r key : Nat) (m : List UInt8) : Nat := numL (blake (2 :: [be 8 r, be 8 key, m].flatten))
theorem chalL_lt (r key : Nat) (m : List UInt8) : chalL r key m < pQ := numL_lt _

def keyOk (x : Nat) : Bool := decide (1 ≤ x) && decide (x < pQ)
def sigC (r s : Nat) : List Value := [.int .u64 (r : Int), .int .u64 (s : Int)]
theorem sigC_one (r s : Nat) : ∀ v ∈ sigC r s, v.oneCell' = true := by
  intro v hv; simp only [sigC, List.mem_cons, List.not_mem_nil, or_false] at hv; rcases hv with rfl | rfl <;> rfl
def kNL (x : Nat) (m : List UInt8) : Nat := max (numL (blake (1 :: [be 8 x, m].flatten))) 1
def sgR (x : Nat) (m : List UInt8) : Nat := pw 37 (kNL x m)
def sgS (x : Nat) (m : List UInt8) : Nat := (kNL x m + chalL (sgR x m) (pw 37 x) m * x % pQ) % pQ
theorem kNL_lt (x : Nat) (m : List UInt8) : kNL x m < pQ := by
  have := numL_lt (blake (1 :: [be 8 x, m].flatten))
  unfold kNL; unfold pQ at *; omega
theorem pw_u64 (b e : Nat) : pw b e < 18446744073709551616 := by have := pw_lt b e; unfold pP at this; omega

def vfyL (key : Nat) (m : List UInt8) (r s : Nat) : Bool := (decide (1 ≤ key) && decide (key < pP)) && ((decide (1 ≤ r) && decide (r < pP)) && (decide (s < pQ) && decide (pw 37 s = r * pw key (chalL r key m) % pP)))
theorem beq_cast (a b : Nat) : ((a : Int) == (b : Int)) = decide (a = b) := by
  rw [Bool.eq_iff_iff]; simp only [beq_iff_eq, decide_eq_true_eq]; omega
end Go.Proofs.YtlahdaanfhedoaaDoor
