/- Plain law: powers modulo the prime, a signature's law, a long division. -/
import Derived.Test.YtfnginmoiecgnaaDoorBase
namespace Go.Proofs.YtfnginmoiecgnaaDoor
set_option maxRecDepth 100000

/-- the prime, and the order -/
def pP : Nat := 2305843009213693951
def pQ : Nat := 2305843009213693950
/-- a power -/
def pw (b e : Nat) : Nat := b ^ e % pP
theorem pw_lt (b e : Nat) : pw b e < pP := Nat.mod_lt _ (by unfold pP; omega)
theorem pw_zero (b : Nat) : pw b 0 = 1 := rfl
theorem pow_mod_mod (b e m : Nat) : (b % m) ^ e % m = b ^ e % m := (Nat.pow_mod b e m).symm
theorem pw_base (b e : Nat) : pw (b % pP) e = pw b e := pow_mod_mod b e pP
theorem pw_add (b d e : Nat) : pw b (d + e) = pw b d * pw b e % pP := by
  unfold pw; rw [Nat.pow_add, Nat.mul_mod]
theorem pw_mul (b d e : Nat) : pw b (d * e) = pw (pw b d) e := by
  unfold pw; rw [Nat.pow_mul, Nat.pow_mod]
/-- by squaring, from the right -/
theorem pw_half (n b e : Nat) : n * b ^ e % pP = ((if e % 2 = 1 then n * b % pP else n) * (b * b % pP) ^ (e / 2)) % pP := by
  have h2 : b ^ e = (b * b) ^ (e / 2) * b ^ (e % 2) := by
    rw [← Nat.pow_two, ← Nat.pow_mul, ← Nat.pow_add, Nat.div_add_mod]
  have h3 : (b * b) ^ (e / 2) % pP = (b * b % pP) ^ (e / 2) % pP := Nat.pow_mod _ _ _
  generalize (b * b) ^ (e / 2) = x at *
  generalize (b * b % pP) ^ (e / 2) = y at *
  rw [h2]
  split
  · rename_i h
    rw [h, Nat.pow_one]
    rw [Nat.mul_mod (n * b % pP), Nat.mod_mod, ← h3, ← Nat.mul_mod, Nat.mul_assoc, Nat.mul_comm b x]
  · rename_i h
    rw [show e % 2 = 0 by omega, Nat.pow_zero, Nat.mul_one, Nat.mul_mod, h3, ← Nat.mul_mod]
/-- from the left -/
theorem pw_bit (b e k : Nat) : pw b (e / 2 ^ k) = if e / 2 ^ k % 2 = 1 then pw b (e / 2 ^ (k + 1)) * pw b (e / 2 ^ (k + 1)) % pP * (b % pP) % pP else pw b (e / 2 ^ (k + 1)) * pw b (e / 2 ^ (k + 1)) % pP := by
  have h : e / 2 ^ (k + 1) = e / 2 ^ k / 2 := by rw [Nat.pow_succ, Nat.div_div_eq_div_mul]
  rw [h]
  generalize e / 2 ^ k = d
  have h2 : d = d / 2 + d / 2 + d % 2 := by omega
  split
  · rename_i h1
    conv => lhs; rw [h2, h1, pw_add, pw_add]
    unfold pw
    rw [Nat.pow_one]
  · rename_i h1
    conv => lhs; rw [h2, show d % 2 = 0 by omega, Nat.add_zero, pw_add]
theorem pw_big (b e : Nat) (h : e < 2 ^ 64) : pw b (e / 2 ^ 64) = 1 := by rw [Nat.div_eq_of_lt h]; rfl
/-- a product, bit by bit -/
theorem mulm_bit (a b m k : Nat) : a * (b / 2 ^ k) % m = if b / 2 ^ k % 2 = 1 then (2 * (a * (b / 2 ^ (k + 1)) % m) % m + a) % m else 2 * (a * (b / 2 ^ (k + 1)) % m) % m := by
  have h : b / 2 ^ (k + 1) = b / 2 ^ k / 2 := by rw [Nat.pow_succ, Nat.div_div_eq_div_mul]
  rw [h]
  generalize b / 2 ^ k = d
  have e0 : a * d = 2 * (a * (d / 2)) + a * (d % 2) := by
    rw [Nat.mul_left_comm, ← Nat.mul_add, Nat.div_add_mod]
  rw [e0]
  split
  · rename_i h1
    rw [h1, Nat.mul_one, Nat.add_mod (2 * (a * (d / 2) % m) % m), Nat.mod_mod, Nat.mul_mod 2 (a * (d / 2) % m), Nat.mod_mod, ← Nat.mul_mod, ← Nat.add_mod]
  · rename_i h1
    rw [show d % 2 = 0 by omega, Nat.mul_zero, Nat.add_zero, Nat.mul_mod 2 (a * (d / 2) % m), Nat.mod_mod, ← Nat.mul_mod]
/-- reckoned fast -/
def fpow : Nat → Nat → Nat → Nat → Nat
  | 0, n, _, _ => n
  | f + 1, n, b, e => fpow f (if e % 2 = 1 then n * b % pP else n) (b * b % pP) (e / 2)
theorem fpow_ok : ∀ (f n b e : Nat), n < pP → e < 2 ^ f → fpow f n b e = n * b ^ e % pP := by
  intro f
  induction f with
  | zero => intro n b e hn he; obtain rfl : e = 0 := by omega
            simp [fpow, Nat.mod_eq_of_lt hn]
  | succ f ih =>
    intro n b e hn he
    unfold fpow
    rw [ih _ _ _ (by split; exact Nat.mod_lt _ (by unfold pP; omega); exact hn) (by rw [Nat.pow_succ] at he; omega), ← pw_half]
theorem pw_fast (b e : Nat) (he : e < 2 ^ 64) : pw b e = fpow 64 1 b e := by
  rw [fpow_ok 64 1 b e (by unfold pP; omega) he, Nat.one_mul]; rfl
theorem gen_order : pw 37 pQ = 1 := by
  rw [pw_fast 37 pQ (by unfold pQ; omega)]
  decide +kernel
theorem pw_mod_order (k : Nat) : pw 37 (k % pQ) = pw 37 k := by
  conv => rhs; rw [← Nat.div_add_mod k pQ, pw_add, pw_mul, gen_order]
  unfold pw
  rw [Nat.one_pow]
  show 37 ^ (k % pQ) % pP = (1 % pP) * (37 ^ (k % pQ) % pP) % pP
  rw [show 1 % pP = 1 from rfl, Nat.one_mul, Nat.mod_mod]
/-- what is signed is well signed -/
theorem schnorr_right (x k c : Nat) : pw 37 ((k + c * x % pQ) % pQ) = pw 37 k * pw (pw 37 x) c % pP := by
  rw [pw_mod_order, ← pw_mul, Nat.mul_comm x c]
  rw [pw_add, pw_mod_order]

/-- one digit of a long division: the guess, and what is over -/
def KInv (u yn1 yn0 u1 q r : Nat) : Prop := q * yn1 + r = u ∧ (u * 4294967296 + u1) / (yn1 * 4294967296 + yn0) ≤ q

theorem knuth_q' (u y u1 : Nat) (hy : u < y) (h1 : u1 < 4294967296) : (u * 4294967296 + u1) / y < 4294967296 := by
  rw [Nat.div_lt_iff_lt_mul (by omega)]
  have : (u + 1) * 4294967296 ≤ y * 4294967296 := Nat.mul_le_mul_right _ (by omega)
  omega
theorem knuth_q (u yn1 yn0 u1 : Nat) (hy : u < yn1 * 4294967296 + yn0) (h1 : u1 < 4294967296) :
    (u * 4294967296 + u1) / (yn1 * 4294967296 + yn0) < 4294967296 := knuth_q' u _ u1 hy h1

theorem knuth_start (u yn1 yn0 u1 : Nat) (h0 : 0 < yn1) (h1 : u1 < 4294967296) : KInv u yn1 yn0 u1 (u / yn1) (u % yn1) := by
  refine ⟨Nat.div_add_mod' u yn1, ?_⟩
  rw [Nat.div_le_iff_le_mul_add_pred (by omega)]
  have e : u = yn1 * (u / yn1) + u % yn1 := (Nat.div_add_mod u yn1).symm
  have hr := Nat.mod_lt u h0
  generalize u / yn1 = q at *
  generalize u % yn1 = r at *
  have e2 : (yn1 * 4294967296 + yn0) * q = yn1 * q * 4294967296 + yn0 * q := by
    rw [Nat.add_mul, Nat.mul_right_comm]
  rw [e2]
  generalize yn1 * q = a at *
  generalize yn0 * q = b at *
  omega

/-- too much: a step -/
theorem knuth_step (u yn1 yn0 u1 q r : Nat) (hi : KInv u yn1 yn0 u1 q r) (hy : u < yn1 * 4294967296 + yn0) (h1 : u1 < 4294967296)
    (h : 4294967296 ≤ q ∨ 4294967296 * r + u1 < q * yn0) : KInv u yn1 yn0 u1 (q - 1) (r + yn1) ∧ 0 < q := by
  obtain ⟨e, hq⟩ := hi
  have hq0 : 0 < q := by
    rcases h with h | h
    · omega
    · rcases Nat.eq_zero_or_pos q with rfl | h0
      · simp at h
      · exact h0
  have hlt := knuth_q u yn1 yn0 u1 hy h1
  refine ⟨⟨?_, ?_⟩, hq0⟩
  · obtain ⟨p, rfl⟩ : ∃ p, q = p + 1 := ⟨q - 1, by omega⟩
    rw [Nat.add_mul] at e
    simp only [Nat.add_sub_cancel]
    omega
  · rcases h with h | h
    · omega
    · have : (u * 4294967296 + u1) / (yn1 * 4294967296 + yn0) < q := by
        rw [Nat.div_lt_iff_lt_mul (by omega), ← e]
        have e2 : q * (yn1 * 4294967296 + yn0) = q * yn1 * 4294967296 + q * yn0 := by rw [Nat.mul_add, Nat.mul_assoc]
        rw [e2]
        generalize q * yn1 = a at *
        generalize q * yn0 = b at *
        omega
      omega
/-- enough -/
theorem knuth_end (u yn1 yn0 u1 q r : Nat) (hi : KInv u yn1 yn0 u1 q r) (hy0 : yn0 < 4294967296) (hy : u < yn1 * 4294967296 + yn0)
    (h : 4294967296 ≤ r ∨ (q < 4294967296 ∧ q * yn0 ≤ 4294967296 * r + u1)) : q = (u * 4294967296 + u1) / (yn1 * 4294967296 + yn0) := by
  obtain ⟨e, hq⟩ := hi
  refine Nat.le_antisymm ?_ hq
  rw [Nat.le_div_iff_mul_le (by omega)]
  have e2 : q * (yn1 * 4294967296 + yn0) = q * yn1 * 4294967296 + q * yn0 := by rw [Nat.mul_add, Nat.mul_assoc]
  rw [e2, ← e]
  have h3 : q * yn0 ≤ 4294967296 * r + u1 := by
    rcases h with h | h
    · have hql : q < 4294967296 := by
        rcases Nat.lt_or_ge q 4294967296 with h4 | h4
        · exact h4
        · have := Nat.mul_le_mul_right yn1 h4
          omega
      have := Nat.mul_le_mul (show q ≤ 4294967295 by omega) (show yn0 ≤ 4294967295 by omega)
      omega
    · exact h.2
  generalize q * yn1 = a at *
  generalize q * yn0 = b at *
  omega
theorem knuth_bound (u yn1 yn0 u1 q r : Nat) (hi : KInv u yn1 yn0 u1 q r) (hn : 2147483648 ≤ yn1) (hy0 : yn0 < 4294967296) (hy : u < yn1 * 4294967296 + yn0) : q < 4294967299 := by
  obtain ⟨e, _⟩ := hi
  rcases Nat.lt_or_ge q 4294967299 with h4 | h4
  · exact h4
  · have := Nat.mul_le_mul_right yn1 h4
    omega
/-- what is left over -/
theorem knuth_rest (N y : Nat) (_hy : y < 18446744073709551616) (hy0 : 0 < y) : ((N : Int) - (N / y : Nat) * (y : Int)) = ((N % y : Nat) : Int) ∧ N % y < y := by
  refine ⟨?_, Nat.mod_lt _ hy0⟩
  have := Nat.div_add_mod N y
  have e : ((N / y : Nat) : Int) * (y : Int) = ((y * (N / y) : Nat) : Int) := by rw [Nat.mul_comm]; simp
  rw [e]
  generalize y * (N / y) = a at *
  omega
/-- two digits -/
theorem div_two (N y s hi lo : Nat) (_hs : N = hi * 18446744073709551616 + lo) (k : Nat) (hk : s = 2 ^ k) : N * s / (y * s) = N / y ∧ N * s % (y * s) / s = N % y := by
  have h0 : 0 < s := hk ▸ Nat.two_pow_pos k
  refine ⟨Nat.mul_div_mul_right _ _ h0, ?_⟩
  rw [Nat.mul_mod_mul_right, Nat.mul_div_cancel _ h0]
theorem div_digits (M y u0 : Nat) :
    (M * 4294967296 + u0) / y = M / y * 4294967296 + (M % y * 4294967296 + u0) / y ∧
    (M * 4294967296 + u0) % y = (M % y * 4294967296 + u0) % y := by
  rcases Nat.eq_zero_or_pos y with rfl | hy
  · simp
  have e := Nat.div_add_mod M y
  generalize hq : M / y = q at *
  generalize hr : M % y = r at *
  have e3 : M * 4294967296 + u0 = (r * 4294967296 + u0) + y * (q * 4294967296) := by
    rw [← e, Nat.add_mul, Nat.mul_assoc]; omega
  rw [e3, Nat.add_mul_div_left _ _ hy, Nat.add_mul_mod_self_left]
  exact ⟨by omega, rfl⟩

end Go.Proofs.YtfnginmoiecgnaaDoor
