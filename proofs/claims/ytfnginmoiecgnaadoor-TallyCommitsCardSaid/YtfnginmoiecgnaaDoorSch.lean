/- Walks of bits.Div64 at the two moduli; schnorr.times, schnorr.Power. Walks: schnorr.times, schnorr.Power. -/
import Derived.Test.YtfnginmoiecgnaaDoorShelf
import Derived.Test.YtfnginmoiecgnaaDoorPow
import Derived.Deep.QuietTactic
import Derived.BigQuiet
import Derived.Deep.Cut
import Derived.Deep.CutRange
namespace Go.Proofs.YtfnginmoiecgnaaDoor
open Go.RowKit
set_option maxRecDepth 100000

set_option maxHeartbeats 400000 in
theorem lz_p (w : World) : Calls Tryd.prog 118 #[.int .u64 2305843009213693951] w fun e w' => e = .returned (.int .i64 3) ∧ w' = w := by
  go_enter Tryd.func118, Tryd.ntmps118
  go_wp2
  go_ret
  exact ⟨by kernel_rfl, rfl⟩
set_option maxHeartbeats 400000 in
theorem lz_q (w : World) : Calls Tryd.prog 118 #[.int .u64 2305843009213693950] w fun e w' => e = .returned (.int .i64 3) ∧ w' = w := by
  go_enter Tryd.func118, Tryd.ntmps118
  go_wp2
  go_ret
  exact ⟨by kernel_rfl, rfl⟩

theorem u64_in (n : Int) (h0 : 0 ≤ n) (h1 : n < 18446744073709551616) : IntKind.u64.wrap n = n := by
  simp [IntKind.wrap, IntKind.signed, IntKind.bits]; omega
set_option maxHeartbeats 1000000 in
theorem div64_zero (lo y : Nat) (w : World) (hl : lo < 18446744073709551616) (hy : 0 < y) (hy2 : y < 18446744073709551616) :
    Calls Tryd.prog 90 #[.int .u64 0, .int .u64 (lo : Int), .int .u64 (y : Int)] w fun e w' => e = .returned (.tuple #[.int .u64 ((lo / y : Nat) : Int), .int .u64 ((lo % y : Nat) : Int)]) ∧ ∃ n, w' = w.drewN n := by
  have h1 : (y : Int) ≠ 0 := by omega
  have h2 : ¬ ((y : Int) ≤ 0) := by omega
  have e1 : IntKind.u64.wrap ((lo : Int) / (y : Int)) = ((lo / y : Nat) : Int) := by
    rw [← Int.natCast_ediv]; exact u64_in _ (Int.natCast_nonneg _) (by have := Nat.div_le_self lo y; omega)
  have e2 : (lo : Int) % (y : Int) = ((lo % y : Nat) : Int) := by simp
  go_enter Tryd.func90, Tryd.ntmps90
  go_wp2
  go_quiet (fail)
  go_wp2
  go_ret2
  exact ⟨by go_num, _, rfl⟩

theorem u64_mod (n : Nat) : IntKind.u64.wrap (n : Int) = ((n % 18446744073709551616 : Nat) : Int) := by
  simp [IntKind.wrap, IntKind.signed, IntKind.bits]
theorem or_div3 (hi lo : Nat) (hl : lo < 18446744073709551616) (hh : hi < 2305843009213693952) :
    bits .or .u64 ((hi : Int) * 8) ((lo : Int) / 2305843009213693952) = ((hi * 8 + lo / 2305843009213693952 : Nat) : Int) := by
  have h7 : lo / 2305843009213693952 < 2 ^ 3 := by omega
  have e1 : ((hi : Int) * 8) = ((hi * 2 ^ 3 : Nat) : Int) := by simp
  have e2 : ((lo : Int) / 2305843009213693952) = ((lo / 2305843009213693952 : Nat) : Int) := by simp
  rw [e1, e2]
  have h8 : hi * 2 ^ 3 ||| lo / 2305843009213693952 = hi * 2 ^ 3 + lo / 2305843009213693952 := by
    rw [Nat.mul_comm, Nat.two_pow_add_eq_or_of_lt h7]
  rw [bits_or_u64_nat _ _ (by omega) (by omega), h8]

theorem wrap_sub (A c X M : Nat) (e : X + M = A + c) (hM : M < 18446744073709551616) :
    IntKind.u64.wrap (((A % 18446744073709551616 + c) % 18446744073709551616 : Nat) - ((X % 18446744073709551616 : Nat) : Int)) = (M : Int) := by
  rw [IntKind.wrap_u64]
  omega
/-- what is left over behind a digit, as the words reckon it -/
theorem fin1 (u c x y : Nat) (hx : x = (u * 4294967296 + c) / (y * 8)) (hy : 0 < y) (hy2 : y < 2305843009213693952) :
    ∃ U1 U2 U3 M : Nat, IntKind.u64.wrap ((u : Int) * 4294967296) = (U1 : Int) ∧ IntKind.u64.wrap ((U1 : Int) + (c : Int)) = (U2 : Int) ∧ IntKind.u64.wrap ((x : Int) * ((y : Int) * 8)) = (U3 : Int) ∧
      IntKind.u64.wrap ((U2 : Int) - (U3 : Int)) = (M : Int) ∧ M = (u * 4294967296 + c) % (y * 8) := by
  have e := Nat.div_add_mod (u * 4294967296 + c) (y * 8)
  have hm := Nat.mod_lt (u * 4294967296 + c) (show 0 < y * 8 by omega)
  rw [← hx] at e
  refine ⟨u * 4294967296 % 18446744073709551616, (u * 4294967296 % 18446744073709551616 + c) % 18446744073709551616, x * (y * 8) % 18446744073709551616, (u * 4294967296 + c) % (y * 8), ?_, ?_, ?_, ?_, rfl⟩
  · rw [show ((u : Int) * 4294967296) = ((u * 4294967296 : Nat) : Int) by simp, u64_mod]
  · rw [← Int.natCast_add, u64_mod]
  · rw [show ((x : Int) * ((y : Int) * 8)) = ((x * (y * 8) : Nat) : Int) by simp, u64_mod]
  · exact wrap_sub (u * 4294967296) c (x * (y * 8)) _ (by rw [Nat.mul_comm x]; exact e) (by omega)
/-- the guess of a digit, as the words reckon it -/
theorem fin2 (M a b d : Nat) (ha : 0 < a) (ha2 : a < 4294967296) (hM : M < 18446744073709551616) (hd : d < 4294967296) :
    ∃ q p r : Nat, IntKind.u64.wrap ((M : Int) / (a : Int)) = (q : Int) ∧ IntKind.u64.wrap ((q : Int) * (a : Int)) = (p : Int) ∧ IntKind.u64.wrap ((M : Int) - (p : Int)) = (r : Int) ∧ KInv M a b d q r ∧ r < 4294967296 := by
  have hs := knuth_start M a b d ha hd
  have hm := Nat.mod_lt M ha
  have e := hs.1
  have hq := Nat.div_le_self M a
  refine ⟨M / a, M / a * a, M % a, ?_, ?_, ?_, hs, by omega⟩
  · rw [← Int.natCast_ediv]; exact u64_in _ (Int.natCast_nonneg _) (by omega)
  · rw [← Int.natCast_mul]; exact u64_in _ (Int.natCast_nonneg _) (by omega)
  · rw [show ((M : Int) - ((M / a * a : Nat) : Int)) = ((M % a : Nat) : Int) by omega]; exact u64_in _ (Int.natCast_nonneg _) (by omega)
/-- both digits -/
theorem fin3 (hi lo y u c d M x z L : Nat) (hl : lo < 18446744073709551616) (hh : hi < y) (hu : hi * 8 + lo / 2305843009213693952 = u) (hL : lo * 8 % 18446744073709551616 = L) (hc : L / 4294967296 = c) (hd : L % 4294967296 = d)
    (hx : x = (u * 4294967296 + c) / (y * 8)) (hM : M = (u * 4294967296 + c) % (y * 8)) (hz : z = (M * 4294967296 + d) / (y * 8)) :
    x * 4294967296 + z = (hi * 18446744073709551616 + lo) / y ∧ (M * 4294967296 + d) % (y * 8) / 8 = (hi * 18446744073709551616 + lo) % y ∧ x * 4294967296 + z < 18446744073709551616 := by
  have hN : (hi * 18446744073709551616 + lo) * 8 = (u * 4294967296 + c) * 4294967296 + d := by omega
  obtain ⟨e1, e2⟩ := div_two (hi * 18446744073709551616 + lo) y 8 hi lo rfl 3 rfl
  obtain ⟨e3, e4⟩ := div_digits (u * 4294967296 + c) (y * 8) d
  rw [hN, e3, ← hx, ← hM, ← hz] at e1
  rw [hN, e4, ← hM] at e2
  refine ⟨e1, e2, ?_⟩
  rw [e1]
  rw [Nat.div_lt_iff_lt_mul (by omega)]
  have := Nat.mul_le_mul_right 18446744073709551616 (show hi + 1 ≤ y by omega)
  rw [Nat.mul_comm 18446744073709551616]
  omega

def KRel (u a b c : Nat) (x z : Value) : Prop := ∃ q r : Nat, KInv u a b c q r ∧ r < 4294967296 ∧ x = .int .u64 (q : Int) ∧ z = .int .u64 (r : Int)

set_option maxHeartbeats 4000000 in
theorem div64_ok (hi lo y : Nat) (w : World) (hl : lo < 18446744073709551616) (hh : 0 < hi) (hy : hi < y) (hy1 : 1152921504606846976 ≤ y) (hy2 : y < 2305843009213693952)
    (hz : ∀ w, Calls Tryd.prog 118 #[.int .u64 (y : Int)] w fun e w' => e = .returned (.int .i64 3) ∧ w' = w) :
    Calls Tryd.prog 90 #[.int .u64 (hi : Int), .int .u64 (lo : Int), .int .u64 (y : Int)] w fun e w' => e = .returned (.tuple #[.int .u64 (((hi * 18446744073709551616 + lo) / y : Nat) : Int), .int .u64 (((hi * 18446744073709551616 + lo) % y : Nat) : Int)]) ∧ ∃ n, w' = w.drewN n := by
  have h0 : ((hi : Int) == 0) = false := by simp; omega
  have h1 : ((y : Int) == 0) = false := by simp; omega
  have h2 : decide ((y : Int) ≤ (hi : Int)) = false := by simp; omega
  obtain ⟨u, hu⟩ : ∃ u, hi * 8 + lo / 2305843009213693952 = u := ⟨_, rfl⟩
  obtain ⟨a, ha⟩ : ∃ a, y * 8 / 4294967296 = a := ⟨_, rfl⟩
  obtain ⟨b, hb⟩ : ∃ b, y * 8 % 4294967296 = b := ⟨_, rfl⟩
  obtain ⟨L, hL⟩ : ∃ L, lo * 8 % 18446744073709551616 = L := ⟨_, rfl⟩
  obtain ⟨c, hc⟩ : ∃ c, L / 4294967296 = c := ⟨_, rfl⟩
  obtain ⟨d, hd⟩ : ∃ d, L % 4294967296 = d := ⟨_, rfl⟩
  have k1 : bits .or .u64 ((hi : Int) * 8) ((lo : Int) / 2305843009213693952) = (u : Int) := by rw [or_div3 hi lo hl (by omega), hu]
  have k2 : ((y : Int) * 8 / 4294967296) = (a : Int) := by omega
  have k3 : bits .and .u64 ((y : Int) * 8) 4294967295 = (b : Int) := by
    rw [show ((y : Int) * 8) = ((y * 8 : Nat) : Int) by simp, Mul64.maskN _ (by omega), hb]
  have k4 : IntKind.u64.wrap ((lo : Int) * 8) = (L : Int) := by rw [show ((lo : Int) * 8) = ((lo * 8 : Nat) : Int) by simp, u64_mod, hL]
  have k5 : ((L : Int) / 4294967296) = (c : Int) := by omega
  have k6 : bits .and .u64 (L : Int) 4294967295 = (d : Int) := by rw [Mul64.maskN _ (by omega), hd]
  have r1 : a < 4294967296 := by omega
  have r2 : 2147483648 ≤ a := by omega
  have r3 : u < y * 8 := by omega
  have C1 := Lib.hid (show c < 4294967296 by omega)
  have D1 := Lib.hid (show d < 4294967296 by omega)
  have BB := Lib.hid (show b < 4294967296 by omega)
  have AB := Lib.hid (show a * 4294967296 + b = y * 8 by omega)
  obtain ⟨q0, qa, r0, k7, k8, k9, ks, ks2⟩ := fin2 u a b c (by omega) r1 (by omega) C1.out
  have KS := Lib.hid (show KRel u a b c (.int .u64 q0) (.int .u64 r0) from ⟨q0, r0, ks, ks2, rfl, rfl⟩)
  have HZ := Lib.hid hz
  have Hu := Lib.hid hu; have Ha := Lib.hid ha; have Hb := Lib.hid hb; have HL := Lib.hid hL; have Hc := Lib.hid hc; have Hd := Lib.hid hd
  have Hl := Lib.hid hl; have Hy := Lib.hid hy; have Hy1 := Lib.hid hy1; have Hy2 := Lib.hid hy2
  have B1 := Lib.hid r1; have B2 := Lib.hid r2; have B3 := Lib.hid (show u < a * 4294967296 + b by have := AB.out; omega)
  have A0 : ¬ a = 0 := by omega
  clear hz hu ha hb hL hc hd ks ks2
  go_enter Tryd.func90, Tryd.ntmps90
  go_wp2_with (go_at_call 118; refine (HZ.out _).mono ?_; rintro e w' ⟨rfl, rfl⟩)
  clear k1 k2 k3 k4 k5 k6 k7 k8 k9 hl hy hy1 hy2 r1 r2 r3
  go_loop [15, 16] (fun x z => KRel u a b c x z) (fun x _ => (intOf x).toNat)
  case atStart => exact KS.out
  case round =>
    obtain ⟨q, r, hk, hr, rfl, rfl⟩ := hrel
    have HK := Lib.hid hk; have HR := Lib.hid hr
    have QB := Lib.hid (knuth_bound u a b c q r hk B2.out BB.out B3.out)
    cases g1 : decide ((4294967296 : Int) ≤ (q : Int)) with
    | true =>
      obtain ⟨hk2, hq1⟩ := knuth_step u a b c q r hk B3.out C1.out (Or.inl (by simp at g1; omega))
      obtain ⟨q', hq'⟩ : ∃ x, q - 1 = x := ⟨_, rfl⟩
      obtain ⟨r', hr'⟩ : ∃ x, r + a = x := ⟨_, rfl⟩
      rw [hq', hr'] at hk2
      have s1 : IntKind.u64.wrap ((q : Int) - 1) = (q' : Int) := by
        rw [show ((q : Int) - 1) = (q' : Int) by omega]; exact u64_in _ (Int.natCast_nonneg _) (by have := QB.out; omega)
      have s2 : IntKind.u64.wrap ((r : Int) + (a : Int)) = (r' : Int) := by
        rw [show ((r : Int) + (a : Int)) = (r' : Int) by omega]; exact u64_in _ (Int.natCast_nonneg _) (by have := B1.out; omega)
      have HK2 := Lib.hid hk2
      have M1 := Lib.hid (show q' < q by omega)
      cases g2 : decide ((4294967296 : Int) ≤ (r' : Int)) with
      | true =>
        have HX := Lib.hid (knuth_end u a b c q' r' hk2 BB.out B3.out (Or.inl (by simp at g2; omega)))
        clear hk2 hq' hr' hq1 hk hr
        rw [AB.out] at HX
        obtain ⟨U1, U2, U3, M, m1, m2, m3, m4, m5⟩ := fin1 u c q' y HX.out (by have := Hy1.out; omega) Hy2.out
        have HQX := Lib.hid HX.out
        have HM := Lib.hid m5
        have B4 := Lib.hid (show M < a * 4294967296 + b by rw [AB.out, m5]; exact Nat.mod_lt _ (by have := Hy1.out; omega))
        obtain ⟨qn, qp, rn, m6, m7, m8, ks, ks2⟩ := fin2 M a b d (by have := B2.out; omega) B1.out (by have := B4.out; have := B1.out; have := BB.out; omega) D1.out
        have KS2 := Lib.hid (show KRel M a b d (.int .u64 qn) (.int .u64 rn) from ⟨qn, rn, ks, ks2, rfl, rfl⟩)
        clear m5 ks ks2 HX
        go_wp2
        go_loop [18, 16] (fun x z => KRel M a b d x z) (fun x _ => (intOf x).toNat)
        case atStart => exact KS2.out
        case round =>
          obtain ⟨p, t, hk, hr, rfl, rfl⟩ := hrel
          have HK := Lib.hid hk; have HR := Lib.hid hr
          have QB := Lib.hid (knuth_bound M a b d p t hk B2.out BB.out B4.out)
          cases g1 : decide ((4294967296 : Int) ≤ (p : Int)) with
          | true =>
            obtain ⟨hk2, hq1⟩ := knuth_step M a b d p t hk B4.out D1.out (Or.inl (by simp at g1; omega))
            obtain ⟨p', hq'⟩ : ∃ x, p - 1 = x := ⟨_, rfl⟩
            obtain ⟨t', hr'⟩ : ∃ x, t + a = x := ⟨_, rfl⟩
            rw [hq', hr'] at hk2
            have s1 : IntKind.u64.wrap ((p : Int) - 1) = (p' : Int) := by
              rw [show ((p : Int) - 1) = (p' : Int) by omega]; exact u64_in _ (Int.natCast_nonneg _) (by have := QB.out; omega)
            have s2 : IntKind.u64.wrap ((t : Int) + (a : Int)) = (t' : Int) := by
              rw [show ((t : Int) + (a : Int)) = (t' : Int) by omega]; exact u64_in _ (Int.natCast_nonneg _) (by have := B1.out; omega)
            have HK2 := Lib.hid hk2
            have M1 := Lib.hid (show p' < p by omega)
            cases g2 : decide ((4294967296 : Int) ≤ (t' : Int)) with
            | true =>
              have HX2 := Lib.hid (knuth_end M a b d p' t' hk2 BB.out B4.out (Or.inl (by simp at g2; omega)))
              clear hk2 hq' hr' hq1 hk hr
              rw [AB.out] at HX2
              obtain ⟨V1, V2, V3, R, v1, v2, v3, v4, v5⟩ := fin1 M d p' y HX2.out (by have := Hy1.out; omega) Hy2.out
              obtain ⟨f1, f2, f3⟩ := fin3 hi lo y u c d M q' p' L Hl.out Hy.out Hu.out HL.out Hc.out Hd.out HQX.out HM.out HX2.out
              obtain ⟨W1, hW1⟩ : ∃ n, q' * 4294967296 = n := ⟨_, rfl⟩
              have v6 : IntKind.u64.wrap ((q' : Int) * 4294967296) = (W1 : Int) := by
                rw [show ((q' : Int) * 4294967296) = (W1 : Int) by omega]; exact u64_in _ (Int.natCast_nonneg _) (by omega)
              have v7 : IntKind.u64.wrap ((W1 : Int) + (p' : Int)) = (((hi * 18446744073709551616 + lo) / y : Nat) : Int) := by
                rw [← f1, hW1, ← Int.natCast_add]; exact u64_in _ (Int.natCast_nonneg _) (by omega)
              have v8 : (R : Int) / 8 = (((hi * 18446744073709551616 + lo) % y : Nat) : Int) := by rw [← f2, v5]; simp
              have F := Lib.hid v7; have F2 := Lib.hid v8
              clear v5 f1 f2 f3 hW1 v7 v8
              go_wp2
              go_ret2
              exact ⟨by rw [F.out, F2.out]; rfl, 0, rfl⟩
            | false =>
              have HR2 := Lib.hid (show t' < 4294967296 by simp at g2; omega)
              clear hk2 hq' hr' hq1 hk hr
              go_wp2
              exact ⟨⟨p', t', HK2.out, HR2.out, rfl, rfl⟩, by simp [intOf]; exact M1.out⟩
          | false =>
            have HQ := Lib.hid (show p < 4294967296 by simp at g1; omega)
            have hqb := Nat.mul_le_mul (show p ≤ 4294967295 by have := HQ.out; omega) (show b ≤ 4294967295 by have := BB.out; omega)
            obtain ⟨X, hX⟩ : ∃ X, p * b = X := ⟨_, rfl⟩
            obtain ⟨Y, hY⟩ : ∃ Y, 4294967296 * t = Y := ⟨_, rfl⟩
            obtain ⟨Z, hZ⟩ : ∃ Z, Y + d = Z := ⟨_, rfl⟩
            have e1 : IntKind.u64.wrap ((p : Int) * (b : Int)) = (X : Int) := by
              rw [← Int.natCast_mul, hX]; exact u64_in _ (Int.natCast_nonneg _) (by omega)
            have e2 : IntKind.u64.wrap (4294967296 * (t : Int)) = (Y : Int) := by
              rw [show (4294967296 * (t : Int)) = (Y : Int) by omega]; exact u64_in _ (Int.natCast_nonneg _) (by omega)
            have e3 : IntKind.u64.wrap ((Y : Int) + (d : Int)) = (Z : Int) := by
              rw [show ((Y : Int) + (d : Int)) = (Z : Int) by omega]; exact u64_in _ (Int.natCast_nonneg _) (by have := D1.out; omega)
            cases g3 : decide (Z < X) with
            | true =>
              have g3' : Z < X := by simpa using g3
              have g4 : decide (Z < X) = true := g3
              obtain ⟨hk2, hq1⟩ := knuth_step M a b d p t hk B4.out D1.out (Or.inr (by omega))
              clear hqb hX hY hZ g3 g3'
              obtain ⟨p', hq'⟩ : ∃ x, p - 1 = x := ⟨_, rfl⟩
              obtain ⟨t', hr'⟩ : ∃ x, t + a = x := ⟨_, rfl⟩
              rw [hq', hr'] at hk2
              have s1 : IntKind.u64.wrap ((p : Int) - 1) = (p' : Int) := by
                rw [show ((p : Int) - 1) = (p' : Int) by omega]; exact u64_in _ (Int.natCast_nonneg _) (by have := QB.out; omega)
              have s2 : IntKind.u64.wrap ((t : Int) + (a : Int)) = (t' : Int) := by
                rw [show ((t : Int) + (a : Int)) = (t' : Int) by omega]; exact u64_in _ (Int.natCast_nonneg _) (by have := B1.out; omega)
              have HK2 := Lib.hid hk2
              have M1 := Lib.hid (show p' < p by omega)
              cases g2 : decide ((4294967296 : Int) ≤ (t' : Int)) with
              | true =>
                have HX2 := Lib.hid (knuth_end M a b d p' t' hk2 BB.out B4.out (Or.inl (by simp at g2; omega)))
                clear hk2 hq' hr' hq1 hk hr
                rw [AB.out] at HX2
                obtain ⟨V1, V2, V3, R, v1, v2, v3, v4, v5⟩ := fin1 M d p' y HX2.out (by have := Hy1.out; omega) Hy2.out
                obtain ⟨f1, f2, f3⟩ := fin3 hi lo y u c d M q' p' L Hl.out Hy.out Hu.out HL.out Hc.out Hd.out HQX.out HM.out HX2.out
                obtain ⟨W1, hW1⟩ : ∃ n, q' * 4294967296 = n := ⟨_, rfl⟩
                have v6 : IntKind.u64.wrap ((q' : Int) * 4294967296) = (W1 : Int) := by
                  rw [show ((q' : Int) * 4294967296) = (W1 : Int) by omega]; exact u64_in _ (Int.natCast_nonneg _) (by omega)
                have v7 : IntKind.u64.wrap ((W1 : Int) + (p' : Int)) = (((hi * 18446744073709551616 + lo) / y : Nat) : Int) := by
                  rw [← f1, hW1, ← Int.natCast_add]; exact u64_in _ (Int.natCast_nonneg _) (by omega)
                have v8 : (R : Int) / 8 = (((hi * 18446744073709551616 + lo) % y : Nat) : Int) := by rw [← f2, v5]; simp
                have F := Lib.hid v7; have F2 := Lib.hid v8
                clear v5 f1 f2 f3 hW1 v7 v8
                go_wp2
                go_ret2
                exact ⟨by rw [F.out, F2.out]; rfl, 0, rfl⟩
              | false =>
                have HR2 := Lib.hid (show t' < 4294967296 by simp at g2; omega)
                clear hk2 hq' hr' hq1 hk hr
                go_wp2
                exact ⟨⟨p', t', HK2.out, HR2.out, rfl, rfl⟩, by simp [intOf]; exact M1.out⟩
            | false =>
              have g3' : X ≤ Z := by simpa using g3
              have g4 : decide (Z < X) = false := g3
              have HX2 := Lib.hid (knuth_end M a b d p t hk BB.out B4.out (Or.inr ⟨HQ.out, by omega⟩))
              clear hqb hX hY hZ g3 g3' hk hr
              rw [AB.out] at HX2
              obtain ⟨V1, V2, V3, R, v1, v2, v3, v4, v5⟩ := fin1 M d p y HX2.out (by have := Hy1.out; omega) Hy2.out
              obtain ⟨f1, f2, f3⟩ := fin3 hi lo y u c d M q' p L Hl.out Hy.out Hu.out HL.out Hc.out Hd.out HQX.out HM.out HX2.out
              obtain ⟨W1, hW1⟩ : ∃ n, q' * 4294967296 = n := ⟨_, rfl⟩
              have v6 : IntKind.u64.wrap ((q' : Int) * 4294967296) = (W1 : Int) := by
                rw [show ((q' : Int) * 4294967296) = (W1 : Int) by omega]; exact u64_in _ (Int.natCast_nonneg _) (by omega)
              have v7 : IntKind.u64.wrap ((W1 : Int) + (p : Int)) = (((hi * 18446744073709551616 + lo) / y : Nat) : Int) := by
                rw [← f1, hW1, ← Int.natCast_add]; exact u64_in _ (Int.natCast_nonneg _) (by omega)
              have v8 : (R : Int) / 8 = (((hi * 18446744073709551616 + lo) % y : Nat) : Int) := by rw [← f2, v5]; simp
              have F := Lib.hid v7; have F2 := Lib.hid v8
              clear v5 f1 f2 f3 hW1 v7 v8
              go_wp2
              go_ret2
              exact ⟨by rw [F.out, F2.out]; rfl, 0, rfl⟩

      | false =>
        have HR2 := Lib.hid (show r' < 4294967296 by simp at g2; omega)
        clear hk2 hq' hr' hq1 hk hr
        go_wp2
        exact ⟨⟨q', r', HK2.out, HR2.out, rfl, rfl⟩, by simp [intOf]; exact M1.out⟩
    | false =>
      have HQ := Lib.hid (show q < 4294967296 by simp at g1; omega)
      have hqb := Nat.mul_le_mul (show q ≤ 4294967295 by have := HQ.out; omega) (show b ≤ 4294967295 by have := BB.out; omega)
      obtain ⟨X, hX⟩ : ∃ X, q * b = X := ⟨_, rfl⟩
      obtain ⟨Y, hY⟩ : ∃ Y, 4294967296 * r = Y := ⟨_, rfl⟩
      obtain ⟨Z, hZ⟩ : ∃ Z, Y + c = Z := ⟨_, rfl⟩
      have e1 : IntKind.u64.wrap ((q : Int) * (b : Int)) = (X : Int) := by
        rw [← Int.natCast_mul, hX]; exact u64_in _ (Int.natCast_nonneg _) (by omega)
      have e2 : IntKind.u64.wrap (4294967296 * (r : Int)) = (Y : Int) := by
        rw [show (4294967296 * (r : Int)) = (Y : Int) by omega]; exact u64_in _ (Int.natCast_nonneg _) (by omega)
      have e3 : IntKind.u64.wrap ((Y : Int) + (c : Int)) = (Z : Int) := by
        rw [show ((Y : Int) + (c : Int)) = (Z : Int) by omega]; exact u64_in _ (Int.natCast_nonneg _) (by have := C1.out; omega)
      cases g3 : decide (Z < X) with
      | true =>
        have g3' : Z < X := by simpa using g3
        have g4 : decide (Z < X) = true := g3
        obtain ⟨hk2, hq1⟩ := knuth_step u a b c q r hk B3.out C1.out (Or.inr (by omega))
        clear hqb hX hY hZ g3 g3'
        obtain ⟨q', hq'⟩ : ∃ x, q - 1 = x := ⟨_, rfl⟩
        obtain ⟨r', hr'⟩ : ∃ x, r + a = x := ⟨_, rfl⟩
        rw [hq', hr'] at hk2
        have s1 : IntKind.u64.wrap ((q : Int) - 1) = (q' : Int) := by
          rw [show ((q : Int) - 1) = (q' : Int) by omega]; exact u64_in _ (Int.natCast_nonneg _) (by have := QB.out; omega)
        have s2 : IntKind.u64.wrap ((r : Int) + (a : Int)) = (r' : Int) := by
          rw [show ((r : Int) + (a : Int)) = (r' : Int) by omega]; exact u64_in _ (Int.natCast_nonneg _) (by have := B1.out; omega)
        have HK2 := Lib.hid hk2
        have M1 := Lib.hid (show q' < q by omega)
        cases g2 : decide ((4294967296 : Int) ≤ (r' : Int)) with
        | true =>
          have HX := Lib.hid (knuth_end u a b c q' r' hk2 BB.out B3.out (Or.inl (by simp at g2; omega)))
          clear hk2 hq' hr' hq1 hk hr
          rw [AB.out] at HX
          obtain ⟨U1, U2, U3, M, m1, m2, m3, m4, m5⟩ := fin1 u c q' y HX.out (by have := Hy1.out; omega) Hy2.out
          have HQX := Lib.hid HX.out
          have HM := Lib.hid m5
          have B4 := Lib.hid (show M < a * 4294967296 + b by rw [AB.out, m5]; exact Nat.mod_lt _ (by have := Hy1.out; omega))
          obtain ⟨qn, qp, rn, m6, m7, m8, ks, ks2⟩ := fin2 M a b d (by have := B2.out; omega) B1.out (by have := B4.out; have := B1.out; have := BB.out; omega) D1.out
          have KS2 := Lib.hid (show KRel M a b d (.int .u64 qn) (.int .u64 rn) from ⟨qn, rn, ks, ks2, rfl, rfl⟩)
          clear m5 ks ks2 HX
          go_wp2
          go_loop [18, 16] (fun x z => KRel M a b d x z) (fun x _ => (intOf x).toNat)
          case atStart => exact KS2.out
          case round =>
            obtain ⟨p, t, hk, hr, rfl, rfl⟩ := hrel
            have HK := Lib.hid hk; have HR := Lib.hid hr
            have QB := Lib.hid (knuth_bound M a b d p t hk B2.out BB.out B4.out)
            cases g1 : decide ((4294967296 : Int) ≤ (p : Int)) with
            | true =>
              obtain ⟨hk2, hq1⟩ := knuth_step M a b d p t hk B4.out D1.out (Or.inl (by simp at g1; omega))
              obtain ⟨p', hq'⟩ : ∃ x, p - 1 = x := ⟨_, rfl⟩
              obtain ⟨t', hr'⟩ : ∃ x, t + a = x := ⟨_, rfl⟩
              rw [hq', hr'] at hk2
              have s1 : IntKind.u64.wrap ((p : Int) - 1) = (p' : Int) := by
                rw [show ((p : Int) - 1) = (p' : Int) by omega]; exact u64_in _ (Int.natCast_nonneg _) (by have := QB.out; omega)
              have s2 : IntKind.u64.wrap ((t : Int) + (a : Int)) = (t' : Int) := by
                rw [show ((t : Int) + (a : Int)) = (t' : Int) by omega]; exact u64_in _ (Int.natCast_nonneg _) (by have := B1.out; omega)
              have HK2 := Lib.hid hk2
              have M1 := Lib.hid (show p' < p by omega)
              cases g2 : decide ((4294967296 : Int) ≤ (t' : Int)) with
              | true =>
                have HX2 := Lib.hid (knuth_end M a b d p' t' hk2 BB.out B4.out (Or.inl (by simp at g2; omega)))
                clear hk2 hq' hr' hq1 hk hr
                rw [AB.out] at HX2
                obtain ⟨V1, V2, V3, R, v1, v2, v3, v4, v5⟩ := fin1 M d p' y HX2.out (by have := Hy1.out; omega) Hy2.out
                obtain ⟨f1, f2, f3⟩ := fin3 hi lo y u c d M q' p' L Hl.out Hy.out Hu.out HL.out Hc.out Hd.out HQX.out HM.out HX2.out
                obtain ⟨W1, hW1⟩ : ∃ n, q' * 4294967296 = n := ⟨_, rfl⟩
                have v6 : IntKind.u64.wrap ((q' : Int) * 4294967296) = (W1 : Int) := by
                  rw [show ((q' : Int) * 4294967296) = (W1 : Int) by omega]; exact u64_in _ (Int.natCast_nonneg _) (by omega)
                have v7 : IntKind.u64.wrap ((W1 : Int) + (p' : Int)) = (((hi * 18446744073709551616 + lo) / y : Nat) : Int) := by
                  rw [← f1, hW1, ← Int.natCast_add]; exact u64_in _ (Int.natCast_nonneg _) (by omega)
                have v8 : (R : Int) / 8 = (((hi * 18446744073709551616 + lo) % y : Nat) : Int) := by rw [← f2, v5]; simp
                have F := Lib.hid v7; have F2 := Lib.hid v8
                clear v5 f1 f2 f3 hW1 v7 v8
                go_wp2
                go_ret2
                exact ⟨by rw [F.out, F2.out]; rfl, 0, rfl⟩
              | false =>
                have HR2 := Lib.hid (show t' < 4294967296 by simp at g2; omega)
                clear hk2 hq' hr' hq1 hk hr
                go_wp2
                exact ⟨⟨p', t', HK2.out, HR2.out, rfl, rfl⟩, by simp [intOf]; exact M1.out⟩
            | false =>
              have HQ := Lib.hid (show p < 4294967296 by simp at g1; omega)
              have hqb := Nat.mul_le_mul (show p ≤ 4294967295 by have := HQ.out; omega) (show b ≤ 4294967295 by have := BB.out; omega)
              obtain ⟨X, hX⟩ : ∃ X, p * b = X := ⟨_, rfl⟩
              obtain ⟨Y, hY⟩ : ∃ Y, 4294967296 * t = Y := ⟨_, rfl⟩
              obtain ⟨Z, hZ⟩ : ∃ Z, Y + d = Z := ⟨_, rfl⟩
              have e1 : IntKind.u64.wrap ((p : Int) * (b : Int)) = (X : Int) := by
                rw [← Int.natCast_mul, hX]; exact u64_in _ (Int.natCast_nonneg _) (by omega)
              have e2 : IntKind.u64.wrap (4294967296 * (t : Int)) = (Y : Int) := by
                rw [show (4294967296 * (t : Int)) = (Y : Int) by omega]; exact u64_in _ (Int.natCast_nonneg _) (by omega)
              have e3 : IntKind.u64.wrap ((Y : Int) + (d : Int)) = (Z : Int) := by
                rw [show ((Y : Int) + (d : Int)) = (Z : Int) by omega]; exact u64_in _ (Int.natCast_nonneg _) (by have := D1.out; omega)
              cases g3 : decide (Z < X) with
              | true =>
                have g3' : Z < X := by simpa using g3
                have g4 : decide (Z < X) = true := g3
                obtain ⟨hk2, hq1⟩ := knuth_step M a b d p t hk B4.out D1.out (Or.inr (by omega))
                clear hqb hX hY hZ g3 g3'
                obtain ⟨p', hq'⟩ : ∃ x, p - 1 = x := ⟨_, rfl⟩
                obtain ⟨t', hr'⟩ : ∃ x, t + a = x := ⟨_, rfl⟩
                rw [hq', hr'] at hk2
                have s1 : IntKind.u64.wrap ((p : Int) - 1) = (p' : Int) := by
                  rw [show ((p : Int) - 1) = (p' : Int) by omega]; exact u64_in _ (Int.natCast_nonneg _) (by have := QB.out; omega)
                have s2 : IntKind.u64.wrap ((t : Int) + (a : Int)) = (t' : Int) := by
                  rw [show ((t : Int) + (a : Int)) = (t' : Int) by omega]; exact u64_in _ (Int.natCast_nonneg _) (by have := B1.out; omega)
                have HK2 := Lib.hid hk2
                have M1 := Lib.hid (show p' < p by omega)
                cases g2 : decide ((4294967296 : Int) ≤ (t' : Int)) with
                | true =>
                  have HX2 := Lib.hid (knuth_end M a b d p' t' hk2 BB.out B4.out (Or.inl (by simp at g2; omega)))
                  clear hk2 hq' hr' hq1 hk hr
                  rw [AB.out] at HX2
                  obtain ⟨V1, V2, V3, R, v1, v2, v3, v4, v5⟩ := fin1 M d p' y HX2.out (by have := Hy1.out; omega) Hy2.out
                  obtain ⟨f1, f2, f3⟩ := fin3 hi lo y u c d M q' p' L Hl.out Hy.out Hu.out HL.out Hc.out Hd.out HQX.out HM.out HX2.out
                  obtain ⟨W1, hW1⟩ : ∃ n, q' * 4294967296 = n := ⟨_, rfl⟩
                  have v6 : IntKind.u64.wrap ((q' : Int) * 4294967296) = (W1 : Int) := by
                    rw [show ((q' : Int) * 4294967296) = (W1 : Int) by omega]; exact u64_in _ (Int.natCast_nonneg _) (by omega)
                  have v7 : IntKind.u64.wrap ((W1 : Int) + (p' : Int)) = (((hi * 18446744073709551616 + lo) / y : Nat) : Int) := by
                    rw [← f1, hW1, ← Int.natCast_add]; exact u64_in _ (Int.natCast_nonneg _) (by omega)
                  have v8 : (R : Int) / 8 = (((hi * 18446744073709551616 + lo) % y : Nat) : Int) := by rw [← f2, v5]; simp
                  have F := Lib.hid v7; have F2 := Lib.hid v8
                  clear v5 f1 f2 f3 hW1 v7 v8
                  go_wp2
                  go_ret2
                  exact ⟨by rw [F.out, F2.out]; rfl, 0, rfl⟩
                | false =>
                  have HR2 := Lib.hid (show t' < 4294967296 by simp at g2; omega)
                  clear hk2 hq' hr' hq1 hk hr
                  go_wp2
                  exact ⟨⟨p', t', HK2.out, HR2.out, rfl, rfl⟩, by simp [intOf]; exact M1.out⟩
              | false =>
                have g3' : X ≤ Z := by simpa using g3
                have g4 : decide (Z < X) = false := g3
                have HX2 := Lib.hid (knuth_end M a b d p t hk BB.out B4.out (Or.inr ⟨HQ.out, by omega⟩))
                clear hqb hX hY hZ g3 g3' hk hr
                rw [AB.out] at HX2
                obtain ⟨V1, V2, V3, R, v1, v2, v3, v4, v5⟩ := fin1 M d p y HX2.out (by have := Hy1.out; omega) Hy2.out
                obtain ⟨f1, f2, f3⟩ := fin3 hi lo y u c d M q' p L Hl.out Hy.out Hu.out HL.out Hc.out Hd.out HQX.out HM.out HX2.out
                obtain ⟨W1, hW1⟩ : ∃ n, q' * 4294967296 = n := ⟨_, rfl⟩
                have v6 : IntKind.u64.wrap ((q' : Int) * 4294967296) = (W1 : Int) := by
                  rw [show ((q' : Int) * 4294967296) = (W1 : Int) by omega]; exact u64_in _ (Int.natCast_nonneg _) (by omega)
                have v7 : IntKind.u64.wrap ((W1 : Int) + (p : Int)) = (((hi * 18446744073709551616 + lo) / y : Nat) : Int) := by
                  rw [← f1, hW1, ← Int.natCast_add]; exact u64_in _ (Int.natCast_nonneg _) (by omega)
                have v8 : (R : Int) / 8 = (((hi * 18446744073709551616 + lo) % y : Nat) : Int) := by rw [← f2, v5]; simp
                have F := Lib.hid v7; have F2 := Lib.hid v8
                clear v5 f1 f2 f3 hW1 v7 v8
                go_wp2
                go_ret2
                exact ⟨by rw [F.out, F2.out]; rfl, 0, rfl⟩

        | false =>
          have HR2 := Lib.hid (show r' < 4294967296 by simp at g2; omega)
          clear hk2 hq' hr' hq1 hk hr
          go_wp2
          exact ⟨⟨q', r', HK2.out, HR2.out, rfl, rfl⟩, by simp [intOf]; exact M1.out⟩
      | false =>
        have g3' : X ≤ Z := by simpa using g3
        have g4 : decide (Z < X) = false := g3
        have HX := Lib.hid (knuth_end u a b c q r hk BB.out B3.out (Or.inr ⟨HQ.out, by omega⟩))
        clear hqb hX hY hZ g3 g3' hk hr
        rw [AB.out] at HX
        obtain ⟨U1, U2, U3, M, m1, m2, m3, m4, m5⟩ := fin1 u c q y HX.out (by have := Hy1.out; omega) Hy2.out
        have HQX := Lib.hid HX.out
        have HM := Lib.hid m5
        have B4 := Lib.hid (show M < a * 4294967296 + b by rw [AB.out, m5]; exact Nat.mod_lt _ (by have := Hy1.out; omega))
        obtain ⟨qn, qp, rn, m6, m7, m8, ks, ks2⟩ := fin2 M a b d (by have := B2.out; omega) B1.out (by have := B4.out; have := B1.out; have := BB.out; omega) D1.out
        have KS2 := Lib.hid (show KRel M a b d (.int .u64 qn) (.int .u64 rn) from ⟨qn, rn, ks, ks2, rfl, rfl⟩)
        clear m5 ks ks2 HX
        go_wp2
        go_loop [18, 16] (fun x z => KRel M a b d x z) (fun x _ => (intOf x).toNat)
        case atStart => exact KS2.out
        case round =>
          obtain ⟨p, t, hk, hr, rfl, rfl⟩ := hrel
          have HK := Lib.hid hk; have HR := Lib.hid hr
          have QB := Lib.hid (knuth_bound M a b d p t hk B2.out BB.out B4.out)
          cases g1 : decide ((4294967296 : Int) ≤ (p : Int)) with
          | true =>
            obtain ⟨hk2, hq1⟩ := knuth_step M a b d p t hk B4.out D1.out (Or.inl (by simp at g1; omega))
            obtain ⟨p', hq'⟩ : ∃ x, p - 1 = x := ⟨_, rfl⟩
            obtain ⟨t', hr'⟩ : ∃ x, t + a = x := ⟨_, rfl⟩
            rw [hq', hr'] at hk2
            have s1 : IntKind.u64.wrap ((p : Int) - 1) = (p' : Int) := by
              rw [show ((p : Int) - 1) = (p' : Int) by omega]; exact u64_in _ (Int.natCast_nonneg _) (by have := QB.out; omega)
            have s2 : IntKind.u64.wrap ((t : Int) + (a : Int)) = (t' : Int) := by
              rw [show ((t : Int) + (a : Int)) = (t' : Int) by omega]; exact u64_in _ (Int.natCast_nonneg _) (by have := B1.out; omega)
            have HK2 := Lib.hid hk2
            have M1 := Lib.hid (show p' < p by omega)
            cases g2 : decide ((4294967296 : Int) ≤ (t' : Int)) with
            | true =>
              have HX2 := Lib.hid (knuth_end M a b d p' t' hk2 BB.out B4.out (Or.inl (by simp at g2; omega)))
              clear hk2 hq' hr' hq1 hk hr
              rw [AB.out] at HX2
              obtain ⟨V1, V2, V3, R, v1, v2, v3, v4, v5⟩ := fin1 M d p' y HX2.out (by have := Hy1.out; omega) Hy2.out
              obtain ⟨f1, f2, f3⟩ := fin3 hi lo y u c d M q p' L Hl.out Hy.out Hu.out HL.out Hc.out Hd.out HQX.out HM.out HX2.out
              obtain ⟨W1, hW1⟩ : ∃ n, q * 4294967296 = n := ⟨_, rfl⟩
              have v6 : IntKind.u64.wrap ((q : Int) * 4294967296) = (W1 : Int) := by
                rw [show ((q : Int) * 4294967296) = (W1 : Int) by omega]; exact u64_in _ (Int.natCast_nonneg _) (by omega)
              have v7 : IntKind.u64.wrap ((W1 : Int) + (p' : Int)) = (((hi * 18446744073709551616 + lo) / y : Nat) : Int) := by
                rw [← f1, hW1, ← Int.natCast_add]; exact u64_in _ (Int.natCast_nonneg _) (by omega)
              have v8 : (R : Int) / 8 = (((hi * 18446744073709551616 + lo) % y : Nat) : Int) := by rw [← f2, v5]; simp
              have F := Lib.hid v7; have F2 := Lib.hid v8
              clear v5 f1 f2 f3 hW1 v7 v8
              go_wp2
              go_ret2
              exact ⟨by rw [F.out, F2.out]; rfl, 0, rfl⟩
            | false =>
              have HR2 := Lib.hid (show t' < 4294967296 by simp at g2; omega)
              clear hk2 hq' hr' hq1 hk hr
              go_wp2
              exact ⟨⟨p', t', HK2.out, HR2.out, rfl, rfl⟩, by simp [intOf]; exact M1.out⟩
          | false =>
            have HQ := Lib.hid (show p < 4294967296 by simp at g1; omega)
            have hqb := Nat.mul_le_mul (show p ≤ 4294967295 by have := HQ.out; omega) (show b ≤ 4294967295 by have := BB.out; omega)
            obtain ⟨X, hX⟩ : ∃ X, p * b = X := ⟨_, rfl⟩
            obtain ⟨Y, hY⟩ : ∃ Y, 4294967296 * t = Y := ⟨_, rfl⟩
            obtain ⟨Z, hZ⟩ : ∃ Z, Y + d = Z := ⟨_, rfl⟩
            have e1 : IntKind.u64.wrap ((p : Int) * (b : Int)) = (X : Int) := by
              rw [← Int.natCast_mul, hX]; exact u64_in _ (Int.natCast_nonneg _) (by omega)
            have e2 : IntKind.u64.wrap (4294967296 * (t : Int)) = (Y : Int) := by
              rw [show (4294967296 * (t : Int)) = (Y : Int) by omega]; exact u64_in _ (Int.natCast_nonneg _) (by omega)
            have e3 : IntKind.u64.wrap ((Y : Int) + (d : Int)) = (Z : Int) := by
              rw [show ((Y : Int) + (d : Int)) = (Z : Int) by omega]; exact u64_in _ (Int.natCast_nonneg _) (by have := D1.out; omega)
            cases g3 : decide (Z < X) with
            | true =>
              have g3' : Z < X := by simpa using g3
              have g4 : decide (Z < X) = true := g3
              obtain ⟨hk2, hq1⟩ := knuth_step M a b d p t hk B4.out D1.out (Or.inr (by omega))
              clear hqb hX hY hZ g3 g3'
              obtain ⟨p', hq'⟩ : ∃ x, p - 1 = x := ⟨_, rfl⟩
              obtain ⟨t', hr'⟩ : ∃ x, t + a = x := ⟨_, rfl⟩
              rw [hq', hr'] at hk2
              have s1 : IntKind.u64.wrap ((p : Int) - 1) = (p' : Int) := by
                rw [show ((p : Int) - 1) = (p' : Int) by omega]; exact u64_in _ (Int.natCast_nonneg _) (by have := QB.out; omega)
              have s2 : IntKind.u64.wrap ((t : Int) + (a : Int)) = (t' : Int) := by
                rw [show ((t : Int) + (a : Int)) = (t' : Int) by omega]; exact u64_in _ (Int.natCast_nonneg _) (by have := B1.out; omega)
              have HK2 := Lib.hid hk2
              have M1 := Lib.hid (show p' < p by omega)
              cases g2 : decide ((4294967296 : Int) ≤ (t' : Int)) with
              | true =>
                have HX2 := Lib.hid (knuth_end M a b d p' t' hk2 BB.out B4.out (Or.inl (by simp at g2; omega)))
                clear hk2 hq' hr' hq1 hk hr
                rw [AB.out] at HX2
                obtain ⟨V1, V2, V3, R, v1, v2, v3, v4, v5⟩ := fin1 M d p' y HX2.out (by have := Hy1.out; omega) Hy2.out
                obtain ⟨f1, f2, f3⟩ := fin3 hi lo y u c d M q p' L Hl.out Hy.out Hu.out HL.out Hc.out Hd.out HQX.out HM.out HX2.out
                obtain ⟨W1, hW1⟩ : ∃ n, q * 4294967296 = n := ⟨_, rfl⟩
                have v6 : IntKind.u64.wrap ((q : Int) * 4294967296) = (W1 : Int) := by
                  rw [show ((q : Int) * 4294967296) = (W1 : Int) by omega]; exact u64_in _ (Int.natCast_nonneg _) (by omega)
                have v7 : IntKind.u64.wrap ((W1 : Int) + (p' : Int)) = (((hi * 18446744073709551616 + lo) / y : Nat) : Int) := by
                  rw [← f1, hW1, ← Int.natCast_add]; exact u64_in _ (Int.natCast_nonneg _) (by omega)
                have v8 : (R : Int) / 8 = (((hi * 18446744073709551616 + lo) % y : Nat) : Int) := by rw [← f2, v5]; simp
                have F := Lib.hid v7; have F2 := Lib.hid v8
                clear v5 f1 f2 f3 hW1 v7 v8
                go_wp2
                go_ret2
                exact ⟨by rw [F.out, F2.out]; rfl, 0, rfl⟩
              | false =>
                have HR2 := Lib.hid (show t' < 4294967296 by simp at g2; omega)
                clear hk2 hq' hr' hq1 hk hr
                go_wp2
                exact ⟨⟨p', t', HK2.out, HR2.out, rfl, rfl⟩, by simp [intOf]; exact M1.out⟩
            | false =>
              have g3' : X ≤ Z := by simpa using g3
              have g4 : decide (Z < X) = false := g3
              have HX2 := Lib.hid (knuth_end M a b d p t hk BB.out B4.out (Or.inr ⟨HQ.out, by omega⟩))
              clear hqb hX hY hZ g3 g3' hk hr
              rw [AB.out] at HX2
              obtain ⟨V1, V2, V3, R, v1, v2, v3, v4, v5⟩ := fin1 M d p y HX2.out (by have := Hy1.out; omega) Hy2.out
              obtain ⟨f1, f2, f3⟩ := fin3 hi lo y u c d M q p L Hl.out Hy.out Hu.out HL.out Hc.out Hd.out HQX.out HM.out HX2.out
              obtain ⟨W1, hW1⟩ : ∃ n, q * 4294967296 = n := ⟨_, rfl⟩
              have v6 : IntKind.u64.wrap ((q : Int) * 4294967296) = (W1 : Int) := by
                rw [show ((q : Int) * 4294967296) = (W1 : Int) by omega]; exact u64_in _ (Int.natCast_nonneg _) (by omega)
              have v7 : IntKind.u64.wrap ((W1 : Int) + (p : Int)) = (((hi * 18446744073709551616 + lo) / y : Nat) : Int) := by
                rw [← f1, hW1, ← Int.natCast_add]; exact u64_in _ (Int.natCast_nonneg _) (by omega)
              have v8 : (R : Int) / 8 = (((hi * 18446744073709551616 + lo) % y : Nat) : Int) := by rw [← f2, v5]; simp
              have F := Lib.hid v7; have F2 := Lib.hid v8
              clear v5 f1 f2 f3 hW1 v7 v8
              go_wp2
              go_ret2
              exact ⟨by rw [F.out, F2.out]; rfl, 0, rfl⟩

theorem drew_trans {w : World} {a b : Nat} : (w.drewN a).drewN b = w.drewN (a + b) := by simp [World.drewN, Nat.add_assoc]
theorem drew_grown (w : World) (n : Nat) : w.grownBy (w.drewN n) none := ⟨rfl, rfl, rfl, Nat.le_refl _, fun _ _ _ => rfl⟩
def Drew (v : Value) (w : World) (e : Ending) (w' : World) : Prop := e = .returned v ∧ ∃ n, w' = w.drewN n

theorem div_p (hi lo : Nat) (w : World) (hl : lo < 18446744073709551616) (hh : hi < 2305843009213693950) :
    Calls Tryd.prog 90 #[.int .u64 (hi : Int), .int .u64 (lo : Int), .int .u64 2305843009213693951] w (Drew (.tuple #[.int .u64 (((hi * 18446744073709551616 + lo) / 2305843009213693951 : Nat) : Int), .int .u64 (((hi * 18446744073709551616 + lo) % 2305843009213693951 : Nat) : Int)]) w) := by
  rcases Nat.eq_zero_or_pos hi with rfl | h0
  · have := div64_zero lo 2305843009213693951 w hl (by omega) (by omega)
    rw [Nat.zero_mul, Nat.zero_add]
    exact this
  · exact div64_ok hi lo 2305843009213693951 w hl h0 (by omega) (by omega) (by omega) lz_p
theorem div_q (hi lo : Nat) (w : World) (hl : lo < 18446744073709551616) (hh : hi < 2305843009213693950) :
    Calls Tryd.prog 90 #[.int .u64 (hi : Int), .int .u64 (lo : Int), .int .u64 2305843009213693950] w (Drew (.tuple #[.int .u64 (((hi * 18446744073709551616 + lo) / 2305843009213693950 : Nat) : Int), .int .u64 (((hi * 18446744073709551616 + lo) % 2305843009213693950 : Nat) : Int)]) w) := by
  rcases Nat.eq_zero_or_pos hi with rfl | h0
  · have := div64_zero lo 2305843009213693950 w hl (by omega) (by omega)
    rw [Nat.zero_mul, Nat.zero_add]
    exact this
  · exact div64_ok hi lo 2305843009213693950 w hl h0 (by omega) (by omega) (by omega) lz_q

theorem mul_hi (x y m : Nat) (hx : x < m) (hy : y < m) (hm : m ≤ 2305843009213693951) :
    x * y / 18446744073709551616 < 2305843009213693950 ∧ x * y / 18446744073709551616 * 18446744073709551616 + x * y % 18446744073709551616 = x * y := by
  have := Nat.mul_le_mul (show x ≤ 2305843009213693950 by omega) (show y ≤ 2305843009213693950 by omega)
  refine ⟨by omega, ?_⟩
  have := Nat.div_add_mod (x * y) 18446744073709551616
  omega

set_option maxHeartbeats 1000000 in
theorem times_p (a b : Nat) (w : World) (_ha : a < 18446744073709551616) (_hb : b < 18446744073709551616) :
    Calls Tryd.prog 62 #[.int .u64 (a : Int), .int .u64 (b : Int), .int .u64 2305843009213693951] w (Drew (.int .u64 ((a * b % 2305843009213693951 : Nat) : Int)) w) := by
  obtain ⟨x, hx⟩ : ∃ x, a % 2305843009213693951 = x := ⟨_, rfl⟩
  obtain ⟨y, hy⟩ : ∃ y, b % 2305843009213693951 = y := ⟨_, rfl⟩
  have k1 : (a : Int) % 2305843009213693951 = (x : Int) := by omega
  have k2 : (b : Int) % 2305843009213693951 = (y : Int) := by omega
  obtain ⟨h1, h2⟩ := mul_hi x y 2305843009213693951 (by omega) (by omega) (by omega)
  have h3 : x * y % 2305843009213693951 = a * b % 2305843009213693951 := by rw [← hx, ← hy, ← Nat.mul_mod]
  have CM := Lib.hid (Tryd.bits_Mul64 x y (by omega) (by omega))
  have CD := Lib.hid (fun w => div_p (x * y / 18446744073709551616) (x * y % 18446744073709551616) w (Nat.mod_lt _ (by omega)) h1)
  rw [h2, h3] at CD
  obtain ⟨H, hH⟩ : ∃ n, x * y / 18446744073709551616 = n := ⟨_, rfl⟩
  obtain ⟨L, hL⟩ : ∃ n, x * y % 18446744073709551616 = n := ⟨_, rfl⟩
  obtain ⟨R, hR⟩ : ∃ n, a * b % 2305843009213693951 = n := ⟨_, rfl⟩
  rw [hH, hL] at CM CD
  rw [hR] at CD ⊢
  clear hx hy h1 h2 h3 hH hL hR _ha _hb
  go_enter Tryd.func62, Tryd.ntmps62
  go_wp2_with fail
  go_quiet ((go_at_call 89; exact Calls.quiet_of_same (CM.out _)))
  go_wp2_with fail
  refine (CD.out _).mono ?_
  rintro e w' ⟨rfl, n2, rfl⟩
  go_wp2_with fail
  go_ret
  exact ⟨rfl, _, rfl⟩
set_option maxHeartbeats 1000000 in
theorem times_q (a b : Nat) (w : World) (_ha : a < 18446744073709551616) (_hb : b < 18446744073709551616) :
    Calls Tryd.prog 62 #[.int .u64 (a : Int), .int .u64 (b : Int), .int .u64 2305843009213693950] w (Drew (.int .u64 ((a * b % 2305843009213693950 : Nat) : Int)) w) := by
  obtain ⟨x, hx⟩ : ∃ x, a % 2305843009213693950 = x := ⟨_, rfl⟩
  obtain ⟨y, hy⟩ : ∃ y, b % 2305843009213693950 = y := ⟨_, rfl⟩
  have k1 : (a : Int) % 2305843009213693950 = (x : Int) := by omega
  have k2 : (b : Int) % 2305843009213693950 = (y : Int) := by omega
  obtain ⟨h1, h2⟩ := mul_hi x y 2305843009213693950 (by omega) (by omega) (by omega)
  have h3 : x * y % 2305843009213693950 = a * b % 2305843009213693950 := by rw [← hx, ← hy, ← Nat.mul_mod]
  have CM := Lib.hid (Tryd.bits_Mul64 x y (by omega) (by omega))
  have CD := Lib.hid (fun w => div_q (x * y / 18446744073709551616) (x * y % 18446744073709551616) w (Nat.mod_lt _ (by omega)) h1)
  rw [h2, h3] at CD
  obtain ⟨H, hH⟩ : ∃ n, x * y / 18446744073709551616 = n := ⟨_, rfl⟩
  obtain ⟨L, hL⟩ : ∃ n, x * y % 18446744073709551616 = n := ⟨_, rfl⟩
  obtain ⟨R, hR⟩ : ∃ n, a * b % 2305843009213693950 = n := ⟨_, rfl⟩
  rw [hH, hL] at CM CD
  rw [hR] at CD ⊢
  clear hx hy h1 h2 h3 hH hL hR _ha _hb
  go_enter Tryd.func62, Tryd.ntmps62
  go_wp2_with fail
  go_quiet ((go_at_call 89; exact Calls.quiet_of_same (CM.out _)))
  go_wp2_with fail
  refine (CD.out _).mono ?_
  rintro e w' ⟨rfl, n2, rfl⟩
  go_wp2_with fail
  go_ret
  exact ⟨rfl, _, rfl⟩

def PwRel (t : Nat) (w : World) (bv ev nv : Value) (wr : World) : Prop := ∃ b e n k : Nat, b < 18446744073709551616 ∧ e < 18446744073709551616 ∧ n < pP ∧ n * b ^ e % pP = t ∧
  bv = .int .u64 (b : Int) ∧ ev = .int .u64 (e : Int) ∧ nv = .int .u64 (n : Int) ∧ wr = w.drewN k
theorem and_1 (e : Nat) (h : e < 18446744073709551616) : bits .and .u64 (e : Int) 1 = ((e % 2 : Nat) : Int) := by rw [and_one_u64 _ (by omega) (by omega)]; simp

set_option maxHeartbeats 1000000 in
theorem Power_ok (b0 e0 : Nat) (w : World) (hb : b0 < 18446744073709551616) (he : e0 < 18446744073709551616) :
    Calls Tryd.prog 58 #[.int .u64 (b0 : Int), .int .u64 (e0 : Int)] w (Drew (.int .u64 ((pw b0 e0 : Nat) : Int)) w) := by
  have HS := Lib.hid (show PwRel (pw b0 e0) w (.int .u64 b0) (.int .u64 e0) (.int .u64 1) w from ⟨b0, e0, 1, 0, hb, he, by unfold pP; omega, by rw [Nat.one_mul]; rfl, rfl, rfl, rfl, rfl⟩)
  clear hb he
  go_enter Tryd.func58, Tryd.ntmps58
  go_wp2_with fail
  go_loopw [0, 1, 5] (fun bv ev nv wr => PwRel (pw b0 e0) w bv ev nv wr) (fun _ ev _ _ => (intOf ev).toNat)
  case atStart => exact HS.out
  case round =>
    obtain ⟨b, e, n, k, hb, he, hn, ht, rfl, rfl, rfl, rfl⟩ := hrel
    have HB := Lib.hid hb; have HE := Lib.hid he; have HN := Lib.hid hn
    rcases Nat.eq_zero_or_pos e with rfl | h0
    · have HR := Lib.hid (show n = pw b0 e0 by rw [← ht, Nat.pow_zero, Nat.mul_one, Nat.mod_eq_of_lt hn])
      clear hb he hn ht
      go_wp2_with fail
      go_ret
      rw [← HR.out]
      exact ⟨rfl, k, rfl⟩
    · obtain ⟨e', he'⟩ : ∃ x, e / 2 = x := ⟨_, rfl⟩
      have g0 : decide (0 < e) = true := by simp; omega
      have g1 : (e : Int) / 2 = (e' : Int) := by omega
      have HT := Lib.hid (show ((if e % 2 = 1 then n * b % pP else n) * (b * b % pP) ^ e') % pP = pw b0 e0 by rw [← he', ← pw_half, ht])
      have M1 := Lib.hid (show e' < e by omega)
      have HE2 := Lib.hid (show e' < 18446744073709551616 by omega)
      have CB := Lib.hid (fun w => times_p b b w hb hb)
      have CN := Lib.hid (fun w => times_p n b w (by unfold pP at hn; omega) hb)
      obtain ⟨bb, hbb⟩ : ∃ x, b * b % 2305843009213693951 = x := ⟨_, rfl⟩
      have HB2 := Lib.hid (show bb < 18446744073709551616 by have := Nat.mod_lt (b * b) (show 0 < 2305843009213693951 by omega); omega)
      rw [hbb] at CB
      have hT := HT.out
      rw [show b * b % pP = bb from hbb] at hT
      rcases Nat.mod_two_eq_zero_or_one e with h2 | h2
      · have g2 : bits .and .u64 (e : Int) 1 = 0 := by rw [and_1 e he, h2]; rfl
        have HR := Lib.hid (show n * bb ^ e' % pP = pw b0 e0 by rw [← hT, if_neg (by omega)])
        clear hb he hn ht h0 he' hbb hT h2
        go_wp2_with fail
        refine (CB.out _).mono ?_
        rintro ee w' ⟨rfl, n2, rfl⟩
        go_wp2_with fail
        exact ⟨⟨bb, e', n, k + n2, HB2.out, HE2.out, HN.out, HR.out, rfl, rfl, rfl, rfl⟩, by simp [intOf]; exact M1.out⟩
      · have g2 : bits .and .u64 (e : Int) 1 = 1 := by rw [and_1 e he, h2]; rfl
        obtain ⟨nb, hnb⟩ : ∃ x, n * b % 2305843009213693951 = x := ⟨_, rfl⟩
        have HNB := Lib.hid (show nb < pP by rw [← hnb]; exact Nat.mod_lt _ (by omega))
        have HR := Lib.hid (show nb * bb ^ e' % pP = pw b0 e0 by rw [← hT, if_pos h2, ← hnb]; rfl)
        rw [hnb] at CN
        clear hb he hn ht h0 he' hbb hT h2 hnb
        go_wp2_with fail
        refine (CN.out _).mono ?_
        rintro ee w' ⟨rfl, n1, rfl⟩
        go_wp2_with fail
        refine (CB.out _).mono ?_
        rintro ee w' ⟨rfl, n2, rfl⟩
        go_wp2_with fail
        exact ⟨⟨bb, e', nb, k + n1 + n2, HB2.out, HE2.out, HNB.out, HR.out, rfl, rfl, rfl, rfl⟩, by simp [intOf]; exact M1.out⟩

end Go.Proofs.YtfnginmoiecgnaaDoor
