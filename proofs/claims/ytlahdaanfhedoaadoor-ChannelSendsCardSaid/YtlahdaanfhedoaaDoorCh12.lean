/- Walks: the document's figures, keys, texts of hashes; Find; an answer to what was not received. -/
import Derived.Test.YtlahdaanfhedoaaDoorCh11
import Derived.Deep.QuietTactic
import Derived.BigQuiet
namespace Go.Proofs.YtlahdaanfhedoaaDoor
open Go.RowKit Go.Maps
set_option maxRecDepth 100000

def d10S : ByteArray := ⟨#[48, 49, 50, 51, 52, 53, 54, 55, 56, 57]⟩
def refD1 (n : Nat) : ByteArray := d10S.extract (n % 10) (n % 10 + 1) ++ ⟨#[]⟩
def refD2 (n : Nat) : ByteArray := d10S.extract (n / 10 % 10) (n / 10 % 10 + 1) ++ refD1 n
theorem refD_small : ∀ n : Fin 100, n.val < 10 → 1 ≤ n.val → refD1 n.val = digS n.val := by decide +kernel
theorem refD_big : ∀ n : Fin 100, 10 ≤ n.val → refD2 n.val = digS n.val := by decide +kernel
theorem refD1_ne : ∀ n : Fin 100, ((refD1 n.val).toList == []) = false := by decide +kernel
theorem refD2_ne : ∀ n : Fin 100, ((refD2 n.val).toList == []) = false := by decide +kernel
theorem toList_inj {a b : ByteArray} (h : a.toList = b.toList) : a = b := by
  rw [Lib.toList_data, Lib.toList_data] at h
  exact ByteArray.ext (Array.ext' h)
theorem wrap_u64 {n : Nat} (h : n < 18446744073709551616) : IntKind.u64.wrap (n : Int) = (n : Int) := by
  unfold IntKind.wrap
  simp [IntKind.bits, IntKind.signed]
  omega
set_option maxHeartbeats 4000000 in
theorem rdig_ok (n : Nat) (h1 : 1 ≤ n) (hn : n < 100) (w : World) : Calls Tryd.prog 27 #[.int .u64 (n : Int)] w fun e w' => e = .returned (.string (digS n)) ∧ w' = w := by
  have HE := Lib.hid (show (n < 10 → refD1 n = digS n) ∧ (10 ≤ n → refD2 n = digS n) from ⟨fun h => refD_small ⟨n, hn⟩ h h1, fun h => refD_big ⟨n, hn⟩ h⟩)
  have HN1 := Lib.hid (refD1_ne ⟨n, hn⟩); have HN2 := Lib.hid (refD2_ne ⟨n, hn⟩)
  have HH := Lib.hid (show 1 ≤ n ∧ n < 100 from ⟨h1, hn⟩)
  obtain ⟨S1, hS1⟩ : ∃ z, refD1 n = z := ⟨_, rfl⟩
  obtain ⟨S2, hS2⟩ : ∃ z, refD2 n = z := ⟨_, rfl⟩
  have H1 := Lib.hid (show d10S.extract (n % 10) (n % 10 + 1) ++ ⟨#[]⟩ = S1 from hS1)
  have H2 := Lib.hid (show d10S.extract (n / 10 % 10) (n / 10 % 10 + 1) ++ S1 = S2 by rw [← hS1]; exact hS2)
  dsimp only at HN1 HN2
  rw [hS1] at HN1 HE; rw [hS2] at HN2 HE
  clear hS1 hS2 h1 hn
  go_enter Tryd.func27, Tryd.ntmps27
  go_wp2_with fail
  go_loopw [0, 3] (fun a s wr => wr = w ∧ ((a = .int .u64 (n : Int) ∧ s = .string ⟨#[]⟩) ∨ (a = .int .u64 ((n / 10 : Nat) : Int) ∧ s = .string S1) ∨ (10 ≤ n ∧ a = .int .u64 0 ∧ s = .string S2))) (fun a s _ => (match a with | .int _ k => k.toNat | _ => 0) + (match s with | .string t => if (t.toList == []) = true then 1 else 0 | _ => 0))
  case atStart => exact ⟨rfl, .inl ⟨rfl, rfl⟩⟩
  case round =>
    obtain ⟨rfl, hrel⟩ := hrel
    rcases hrel with ⟨rfl, rfl⟩ | ⟨rfl, rfl⟩ | ⟨h10, rfl, rfl⟩
    · have d : decide ((0 : Int) < (n : Int)) = true := by have := HH.out; simp; omega
      have d2 : (0 : Int) < (n : Int) := by have := HH.out; omega
      obtain ⟨k, hk⟩ : ∃ k, n % 10 = k := ⟨_, rfl⟩
      have e1 : ((n : Int) % 10) = (k : Int) := by omega
      have e2 : ((n : Int).tmod 10) = (k : Int) := by rw [Int.tmod_eq_emod_of_nonneg (by omega)]; exact e1
      obtain ⟨q, hq⟩ : ∃ q, n / 10 = q := ⟨_, rfl⟩
      have e3 : ((n : Int) / 10) = (q : Int) := by omega
      have e4 : ((n : Int).tdiv 10) = (q : Int) := by rw [Int.tdiv_eq_ediv_of_nonneg (by omega)]; exact e3
      have HQ := Lib.hid hq
      have hk10 : k < 10 := by omega
      have ew := IntWalk.i64_in (k : Int) (by omega)
      have ew2 : IntKind.u64.wrap (q : Int) = (q : Int) := wrap_u64 (by have := HH.out; omega)
      have hs := H1.out
      rw [hk] at hs
      clear hk hq
      go_wp2_with fail
      rw [show (({ data := #[48, 49, 50, 51, 52, 53, 54, 55, 56, 57] } : ByteArray).extract k (k + 1) ++ ({ data := #[] } : ByteArray)) = S1 from hs]
      refine ⟨⟨by trivial, .inr (.inl ⟨by rw [HQ.out], rfl⟩)⟩, ?_⟩
      have hq := HQ.out
      have hn1 := HN1.out
      have := HH.out
      simp [hn1]
      omega
    · have hn1 := HN1.out
      by_cases h10 : 10 ≤ n
      · obtain ⟨m, hm⟩ : ∃ m, n / 10 = m := ⟨_, rfl⟩
        have hm1 : 1 ≤ m ∧ m < 10 := by have := HH.out; omega
        have d : decide ((0 : Int) < (m : Int)) = true := by simp; omega
        have d2 : (0 : Int) < (m : Int) := by omega
        have e1 : ((m : Int) % 10) = (m : Int) := by omega
        have e2 : ((m : Int).tmod 10) = (m : Int) := by rw [Int.tmod_eq_emod_of_nonneg (by omega)]; exact e1
        have e3 : ((m : Int) / 10) = 0 := by omega
        have e4 : ((m : Int).tdiv 10) = 0 := by rw [Int.tdiv_eq_ediv_of_nonneg (by omega)]; exact e3
        have ew := IntWalk.i64_in (m : Int) (by omega)
        have ew2 : IntKind.u64.wrap 0 = 0 := rfl
        have hs := H2.out
        rw [hm, show m % 10 = m by omega] at hs
        have hsz : (({ data := #[48, 49, 50, 51, 52, 53, 54, 55, 56, 57] } : ByteArray).extract m (m + 1)).size + S1.size ≤ 9223372036854775807 := by
          have h0 : (⟨#[]⟩ : ByteArray).size = 0 := rfl
          rw [← H1.out, ByteArray.size_append, ByteArray.size_extract, ByteArray.size_extract, h0]
          omega
        have HM := Lib.hid hm
        rw [hm]
        clear hm
        go_wp2_with fail
        rw [show (({ data := #[48, 49, 50, 51, 52, 53, 54, 55, 56, 57] } : ByteArray).extract m (m + 1) ++ S1) = S2 from hs]
        have hn1 := HN1.out; have hn2 := HN2.out
        exact ⟨⟨by trivial, .inr (.inr ⟨h10, rfl, rfl⟩)⟩, by simp [hn1, hn2]; omega⟩
      · have hm : n / 10 = 0 := by omega
        rw [hm]
        have HE1 := Lib.hid (HE.out.1 (by omega))
        go_wp2_with fail
        go_ret
        rw [HE1.out]
        exact ⟨rfl, rfl⟩
    · have hn2 := HN2.out
      have HE1 := Lib.hid (HE.out.2 h10)
      go_wp2_with fail
      go_ret
      rw [HE1.out]
      exact ⟨rfl, rfl⟩
theorem rkey_ok (s : ByteArray) (hs : s.size ≤ 1000) (n : Nat) (h1 : 1 ≤ n) (hn : n < 100) (w : World) : Calls Tryd.prog 14 #[.string s, .int .i64 (n : Int)] w fun e w' => e = .returned (.string (keyS s n)) ∧ w' = w := by
  have C := Lib.hid (rdig_ok n h1 hn w)
  have hd := dig_size n
  have h1 : s.size + 1 ≤ 9223372036854775807 := by omega
  have h2 : (s ++ slashS).size + (digS n).size ≤ 9223372036854775807 := by rw [ByteArray.size_append]; have : slashS.size = 1 := rfl; omega
  have ew : IntKind.u64.wrap (n : Int) = (n : Int) := wrap_u64 (by omega)
  go_enter Tryd.func14, Tryd.ntmps14
  go_wp2_with fail
  refine C.out.mono ?_
  rintro e w' ⟨rfl, rfl⟩
  go_wp2_with fail
  go_ret
  exact ⟨rfl, rfl⟩
/-! Find -/
theorem ent_at {w : World} {v : Value} {ys : List EntD} (h : SRow w 57 2 v ys.length (esCells ys)) (k : Nat) (hk : k < ys.length) : ∃ g o c, v = .slice (some ⟨g, o, none⟩) ys.length c ∧ w.cell? ⟨g, o + k * 2, none⟩ = some (.string ys[k].key) ∧ w.cell? ⟨g, o + k * 2 + 1, none⟩ = some (.string ys[k].value) := by
  obtain ⟨g, o, c, rfl, _, _, _, hr⟩ := h.at_ (by omega)
  have r := RowAt.elem (f := EntD.cells) (k := 2) hr (fun d _ => rfl) k hk
  have r0 := r 0 _ rfl; have r1 := r 1 _ rfl
  rw [Nat.add_zero] at r0
  exact ⟨g, o, c, rfl, r0, r1⟩
set_option maxHeartbeats 2000000 in
theorem find_ok {v : Value} {ys : List EntD} {w : World} (h : SRow w 57 2 v ys.length (esCells ys)) (hn : (ys.map (·.key)).Nodup) (e0 : EntD) (he : e0 ∈ ys) : Calls Tryd.prog 13 #[v, .string e0.key] w fun e w' => e = .returned (.tuple #[.string e0.value, .bool true]) ∧ w' = w := by
  have HA := Lib.hid (fun k hk => ent_at h k hk)
  obtain ⟨a1, c1, rfl, _, hm⟩ := h.shape
  unfold maxLen at hm
  obtain ⟨N, hN⟩ : ∃ n, ys.length = n := ⟨_, rfl⟩
  have HN := Lib.hid hN; have HE := Lib.hid he; have HD := Lib.hid hn
  have hN2 : N ≤ c1 := by have := h.shape; omega
  rw [hN]
  clear h hn he hN
  go_enter Tryd.func13, Tryd.ntmps13
  go_wp2_with fail
  go_loopw [6] (fun i wr => ∃ k : Nat, k ≤ N ∧ i = .int .i64 k ∧ (∀ u ∈ ys.take k, u.key ≠ e0.key) ∧ wr = w) (fun i _ => N - (intOf i).toNat)
  case atStart => exact ⟨0, Nat.zero_le _, rfl, by simp, rfl⟩
  case round =>
    obtain ⟨k, hk, rfl, hne, rfl⟩ := hrel
    have HNE := Lib.hid hne
    clear hne
    by_cases hlt : k < N
    · have hkx : k < ys.length := by rw [HN.out]; exact hlt
      obtain ⟨g, o, c, hv, k0, k1⟩ := HA.out k hkx
      have e1 := (Value.slice.inj hv).1
      subst e1
      obtain ⟨u, hu⟩ : ∃ u, ys[k] = u := ⟨_, rfl⟩
      rw [hu] at k0 k1
      have HU := Lib.hid (show u ∈ ys from hu ▸ List.getElem_mem hkx)
      have HT := Lib.hid (show ys.take (k + 1) = ys.take k ++ [u] by rw [List.take_add_one, List.getElem?_eq_getElem hkx, hu]; rfl)
      have hix : ¬ ((N : Int) ≤ (k : Int)) := by omega
      clear hu hkx hv
      by_cases hq : u.key = e0.key
      · have hue := ent_key_inj HD.out u HU.out e0 HE.out hq
        rw [hue] at k0 k1
        clear hq hue
        go_wp2_with fail
        go_ret2
        exact ⟨rfl, rfl⟩
      · have hqb : (u.key.toList == e0.key.toList) = false := by
          simp only [beq_eq_false_iff_ne]
          intro h
          exact hq (toList_inj h)
        go_wp2_with fail
        exact ⟨⟨k + 1, by omega, by go_num, by
          rw [HT.out]
          intro x hx
          rcases List.mem_append.1 hx with hx | hx
          · exact HNE.out x hx
          · simp at hx; subst hx; exact hq, by first | rfl | trivial⟩, by simp [intOf]; omega⟩
    · exfalso
      obtain rfl : k = N := by omega
      exact HNE.out e0 (by rw [List.take_of_length_le (by rw [HN.out]; exact Nat.le_refl _)]; exact HE.out) rfl

end Go.Proofs.YtlahdaanfhedoaaDoor
