/- Walks: forms.must, within, name. -/
import Derived.Test.YtcbkehnlgpcelaaGreatDoorRows
import Derived.Test.YtcbkehnlgpcelaaGreatDoorBase
namespace Go.Proofs.YtcbkehnlgpcelaaGreatDoor
open Go.RowKit

/-- what forms throws -/
def wrongP : List PanicEntry := [{ v := .iface 165 (.agg #[]), recovered := false }]

set_option maxHeartbeats 400000 in
theorem must_yes (w : World) : Calls Tryz.prog 75 #[.bool true] w fun e w' => e = .returned (.tuple #[]) ∧ w = w' := by
  go_enter Tryz.func75, Tryz.ntmps75
  go_wp2
  go_end0
  exact ⟨rfl, rfl⟩

set_option maxHeartbeats 400000 in
theorem must_no (w : World) : Calls Tryz.prog 75 #[.bool false] w fun e w' => e = .panicked wrongP ∧ w = w' := by
  go_enter Tryz.func75, Tryz.ntmps75
  go_wp2
  exact ⟨rfl, rfl, rfl⟩

/-- 'e = ret ()' and the world is as it was, or it throws -/
def Must (ok : Bool) (w : World) (e : Ending) (w' : World) : Prop := e = (if ok then .returned (.tuple #[]) else .panicked wrongP) ∧ w = w'

def inR (n lo hi : Int) : Bool := decide (lo ≤ n) && decide (n ≤ hi)

set_option maxHeartbeats 400000 in
theorem within_any (n lo hi : Int) (w : World) : Calls Tryz.prog 77 #[.int .i64 n, .int .i64 lo, .int .i64 hi] w (Must (inR n lo hi) w) := by
  by_cases h1 : lo ≤ n
  · by_cases h2 : n ≤ hi
    · go_enter Tryz.func77, Tryz.ntmps77
      go_wp2_with (go_at_call 75; refine (must_yes _).mono ?_; rintro e w' ⟨rfl, rfl⟩)
      go_end0
      exact ⟨by simp [inR, h1, h2], rfl⟩
    · go_enter Tryz.func77, Tryz.ntmps77
      go_wp2_with (go_at_call 75; refine (must_no _).mono ?_; rintro e w' ⟨rfl, rfl⟩)
      refine ⟨rfl, by simp [inR, h1, h2], rfl⟩
  · go_enter Tryz.func77, Tryz.ntmps77
    go_wp2_with (go_at_call 75; refine (must_no _).mono ?_; rintro e w' ⟨rfl, rfl⟩)
    refine ⟨rfl, by simp [inR]; omega, rfl⟩

/-- a name: 1 to 16 letters a to z -/
def letter (c : UInt8) : Bool := decide (97 ≤ c.toNat) && decide (c.toNat ≤ 122)
def nameL (l : List UInt8) : Bool := decide (1 ≤ l.length) && decide (l.length ≤ 16) && l.all letter

theorem within_yes (n lo hi : Int) (w : World) (h1 : lo ≤ n) (h2 : n ≤ hi) : Calls Tryz.prog 77 #[.int .i64 n, .int .i64 lo, .int .i64 hi] w fun e w' => e = .returned (.tuple #[]) ∧ w = w' :=
  (within_any n lo hi w).mono fun e w' h => by
    have h3 : inR n lo hi = true := by simp [inR, h1, h2]
    unfold Must at h; rw [h3] at h; exact h
theorem within_no (n lo hi : Int) (w : World) (h1 : n < lo ∨ hi < n) : Calls Tryz.prog 77 #[.int .i64 n, .int .i64 lo, .int .i64 hi] w fun e w' => e = .panicked wrongP ∧ w = w' :=
  (within_any n lo hi w).mono fun e w' h => by
    have h3 : inR n lo hi = false := by simp [inR]; omega
    unfold Must at h; rw [h3] at h; exact h

theorem within_t (n lo hi : Int) (w : World) (h : inR n lo hi = true) : Calls Tryz.prog 77 #[.int .i64 n, .int .i64 lo, .int .i64 hi] w fun e w' => e = .returned (.tuple #[]) ∧ w = w' :=
  within_yes n lo hi w (by simp [inR] at h; exact h.1) (by simp [inR] at h; exact h.2)
theorem within_f (n lo hi : Int) (w : World) (h : inR n lo hi = false) : Calls Tryz.prog 77 #[.int .i64 n, .int .i64 lo, .int .i64 hi] w fun e w' => e = .panicked wrongP ∧ w = w' :=
  within_no n lo hi w (by simp [inR] at h; omega)

theorem letter_all_snoc (l : List UInt8) (k : Nat) (h : k < l.length) : (l.take (k + 1)).all letter = ((l.take k).all letter && letter l[k]) := by
  rw [List.take_succ_eq_append_getElem h, List.all_append]; simp
theorem letter_all_no (l : List UInt8) (k : Nat) (h : k < l.length) (hn : letter l[k] = false) : l.all letter = false := by
  rw [List.all_eq_false]; exact ⟨l[k], List.getElem_mem h, by simp [hn]⟩

theorem nameL_no (l : List UInt8) (h : l.all letter = false) : nameL l = false := by unfold nameL; rw [h]; simp
theorem nameL_yes (l : List UInt8) (h1 : 1 ≤ l.length) (h2 : l.length ≤ 16) (h : l.all letter = true) : nameL l = true := by unfold nameL; rw [h]; simp [h1, h2]
theorem letter_no (u : UInt8) (h : u.toNat < 97 ∨ 122 < u.toNat) : letter u = false := by simp [letter]; omega

/-- returns nothing, or throws; nothing old is touched -/
def RetB (ok : Bool) (w : World) (e : Ending) (w' : World) : Prop := e = (if ok then .returned (.tuple #[]) else .panicked wrongP) ∧ Below w.heap.size w w'
theorem RetB.yes {ok : Bool} {w w' : World} (h : ok = true) (hb : Below w.heap.size w w') : RetB ok w (.returned (.tuple #[])) w' := ⟨by rw [h]; rfl, hb⟩
theorem RetB.no {ok : Bool} {w w' : World} (h : ok = false) (hb : Below w.heap.size w w') : RetB ok w (.panicked wrongP) w' := ⟨by rw [h]; rfl, hb⟩

set_option maxRecDepth 100000 in
set_option maxHeartbeats 400000 in
theorem name_any (s : ByteArray) (w : World) : Calls Tryz.prog 76 #[.string s] w (RetB (nameL s.data.toList) w) := by
  have hlen : s.data.toList.length = s.size := by simp
  by_cases h1 : 1 ≤ s.size ∧ s.size ≤ 16
  · obtain ⟨h1, h2⟩ := h1
    obtain ⟨w1, c, hconv, hb, hsz, hrow⟩ := conv_str_bytes (P := Tryz.prog) w 9 27 5 s Tryz.underlying9 Tryz.underlying27 Tryz.underlying5
    have Hb := Lib.hid hb; have Hsz := Lib.hid hsz; have Hrow := Lib.hid hrow; have Hlen := Lib.hid hlen
    clear hb hsz hrow hlen
    go_enter Tryz.func76, Tryz.ntmps76
    go_wp2_with (go_at_call 77; refine (within_yes _ _ _ _ (by omega) (by omega)).mono ?_; rintro e w' ⟨rfl, rfl⟩)
    go_loop [10] (fun i => ∃ k : Nat, k ≤ s.size ∧ i = .int .i64 k ∧ (s.data.toList.take k).all letter = true) (fun i => s.size - (intOf i).toNat)
    case atStart => exact ⟨0, Nat.zero_le _, rfl, by simp⟩
    case round =>
      obtain ⟨k, hk, rfl, hall⟩ := hrel
      have Hall := Lib.hid hall; clear hall
      by_cases hlt : k < s.size
      · have hk2 : k < s.data.toList.length := by rw [Hlen.out]; exact hlt
        have hcell : w1.cell? ⟨w.heap.size, k, none⟩ = some (.int .u8 (s.data.toList[k].toNat : Int)) := by
          have := Hrow.out k _ (byteCells_get _ k hk2)
          rwa [Nat.zero_add] at this
        obtain ⟨u, hu⟩ : ∃ u, u = s.data.toList[k] := ⟨_, rfl⟩
        have Hn := Lib.hid (letter_all_no s.data.toList k hk2)
        have Hs := Lib.hid (letter_all_snoc s.data.toList k hk2)
        rw [← hu] at hcell Hn Hs
        clear hk2 hu
        by_cases g1 : 97 ≤ u.toNat
        · by_cases g2 : u.toNat ≤ 122
          · have d2 : decide ((u.toNat : Int) ≤ 122) = true := by simp; omega
            go_wp2_with (go_at_call 75; refine (must_yes _).mono ?_; rintro e w' ⟨rfl, rfl⟩)
            go_round
            case rel => exact ⟨k + 1, by omega, by go_num, by rw [Hs.out, Hall.out]; simp [letter, g1, g2]⟩
            case measure => simp [intOf]; omega
          · have d2 : decide ((u.toNat : Int) ≤ 122) = false := by simp; omega
            go_wp2_with (go_at_call 75; refine (must_no _).mono ?_; rintro e w' ⟨rfl, rfl⟩)
            exact ⟨rfl, RetB.no (nameL_no _ (Hn.out (letter_no u (by omega)))) Hb.out⟩
        · go_wp2_with (go_at_call 75; refine (must_no _).mono ?_; rintro e w' ⟨rfl, rfl⟩)
          exact ⟨rfl, RetB.no (nameL_no _ (Hn.out (letter_no u (by omega)))) Hb.out⟩
      · go_wp2
        go_end0
        have : k = s.size := by omega
        subst this
        have Hl := Hall.out
        rw [List.take_of_length_le (by rw [Hlen.out]; omega)] at Hl
        exact RetB.yes (nameL_yes _ (by rw [Hlen.out]; exact h1) (by rw [Hlen.out]; exact h2) Hl) Hb.out
  · go_enter Tryz.func76, Tryz.ntmps76
    go_wp2_with (go_at_call 77; refine (within_no _ _ _ _ (by omega)).mono ?_; rintro e w' ⟨rfl, rfl⟩)
    have : nameL s.data.toList = false := by unfold nameL; rw [hlen]; simp; omega
    exact ⟨rfl, RetB.no this (Below.refl _ _)⟩

theorem name_yes (s : ByteArray) (w : World) (h : nameL s.data.toList = true) : Calls Tryz.prog 76 #[.string s] w fun e w' => e = .returned (.tuple #[]) ∧ Below w.heap.size w w' :=
  (name_any s w).mono fun e w' hp => by unfold RetB at hp; rw [h] at hp; exact hp
theorem name_no (s : ByteArray) (w : World) (h : nameL s.data.toList = false) : Calls Tryz.prog 76 #[.string s] w fun e w' => e = .panicked wrongP ∧ Below w.heap.size w w' :=
  (name_any s w).mono fun e w' hp => by unfold RetB at hp; rw [h] at hp; exact hp

end Go.Proofs.YtcbkehnlgpcelaaGreatDoor
