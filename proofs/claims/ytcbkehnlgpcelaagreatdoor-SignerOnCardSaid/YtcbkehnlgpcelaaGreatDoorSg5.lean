/- Walks: places; a vote is kept. -/
import Derived.Test.YtcbkehnlgpcelaaGreatDoorSg4
import Derived.Test.YtcbkehnlgpcelaaGreatDoorTb
namespace Go.Proofs.YtcbkehnlgpcelaaGreatDoor
open Go.RowKit
set_option maxRecDepth 100000

def cmpI (x y : Int) : Int := if x < y then -1 else if y < x then 1 else 0
theorem isNaN_ok (x : Int) (w : World) : Calls Tryz.prog 142 #[.int .i64 x] w fun e w' => e = .returned (.bool false) ∧ w' = w := by
  go_enter Tryz.func142, Tryz.ntmps142
  go_wp2_with fail
  go_ret
  exact ⟨rfl, rfl⟩
theorem cmpI_ok (x y : Int) (w : World) : Calls Tryz.prog 102 #[.int .i64 x, .int .i64 y] w fun e w' => e = .returned (.int .i64 (cmpI x y)) ∧ w' = w := by
  obtain ⟨V, hV⟩ : ∃ V, cmpI x y = V := ⟨_, rfl⟩
  rw [hV]
  have HV := Lib.hid hV
  clear hV
  go_enter Tryz.func102, Tryz.ntmps102
  go_wp2_with fail
  refine (isNaN_ok x w).mono ?_
  rintro e w ⟨rfl, rfl⟩
  go_wp2_with fail
  refine (isNaN_ok y w).mono ?_
  rintro e w ⟨rfl, rfl⟩
  by_cases h1 : x < y
  · have d1 : decide (x < y) = true := decide_eq_true h1
    obtain rfl : V = -1 := by rw [← HV.out]; unfold cmpI; rw [if_pos h1]
    go_wp2_with fail
    go_ret
    exact ⟨rfl, rfl⟩
  · have d1 : decide (x < y) = false := decide_eq_false h1
    by_cases h2 : y < x
    · have d2 : decide (y < x) = true := decide_eq_true h2
      obtain rfl : V = 1 := by rw [← HV.out]; unfold cmpI; rw [if_neg h1, if_pos h2]
      clear h1 h2
      go_wp2_with fail
      go_ret
      exact ⟨rfl, rfl⟩
    · have d2 : decide (y < x) = false := decide_eq_false h2
      obtain rfl : V = 0 := by rw [← HV.out]; unfold cmpI; rw [if_neg h1, if_neg h2]
      clear h1 h2
      go_wp2_with fail
      go_ret
      exact ⟨rfl, rfl⟩
/-- a place: height, round, type -/
structure Pl where
  h : Int
  r : Int
  t : Int
  deriving DecidableEq
def Pl.cells (p : Pl) : List Value := [.int .i64 p.h, .int .i64 p.r, .int .i64 p.t]
def cmpP (p q : Pl) : Int := if cmpI p.h q.h = 0 then (if cmpI p.r q.r = 0 then cmpI p.t q.t else cmpI p.r q.r) else cmpI p.h q.h
set_option maxHeartbeats 4000000 in
theorem comp_ok (a b : Nat) (p q : Pl) (w : World) (hp : RowAt w a 0 p.cells) (hq : RowAt w b 0 q.cells) :
    Calls Tryz.prog 67 #[.slice (some ⟨a, 0, none⟩) 3 3, .slice (some ⟨b, 0, none⟩) 3 3] w fun e w' => e = .returned (.int .i64 (cmpP p q)) ∧ w' = w := by
  obtain ⟨ph, pr, pt⟩ := p
  obtain ⟨qh, qr, qt⟩ := q
  have p0 : w.cell? ⟨a, 0, none⟩ = some (.int .i64 ph) := hp 0 _ rfl
  have p1 : w.cell? ⟨a, 1, none⟩ = some (.int .i64 pr) := hp 1 _ rfl
  have p2 : w.cell? ⟨a, 2, none⟩ = some (.int .i64 pt) := hp 2 _ rfl
  have q0 : w.cell? ⟨b, 0, none⟩ = some (.int .i64 qh) := hq 0 _ rfl
  have q1 : w.cell? ⟨b, 1, none⟩ = some (.int .i64 qr) := hq 1 _ rfl
  have q2 : w.cell? ⟨b, 2, none⟩ = some (.int .i64 qt) := hq 2 _ rfl
  clear hp hq
  obtain ⟨c0, h0⟩ : ∃ c, cmpI ph qh = c := ⟨_, rfl⟩
  obtain ⟨c1, h1⟩ : ∃ c, cmpI pr qr = c := ⟨_, rfl⟩
  obtain ⟨c2, h2⟩ : ∃ c, cmpI pt qt = c := ⟨_, rfl⟩
  have C0 := Lib.hid (h0 ▸ cmpI_ok ph qh w); have C1 := Lib.hid (h1 ▸ cmpI_ok pr qr w); have C2 := Lib.hid (h2 ▸ cmpI_ok pt qt w)
  unfold cmpP
  dsimp only
  rw [h0, h1, h2]
  obtain ⟨V, hV⟩ : ∃ V, (if c0 = 0 then (if c1 = 0 then c2 else c1) else c0) = V := ⟨_, rfl⟩
  rw [hV]
  have HV := Lib.hid hV
  clear hV h0 h1 h2
  go_enter Tryz.func67, Tryz.ntmps67
  go_wp2_with fail
  go_loopw [11] (fun i wr => ∃ k : Nat, k ≤ 3 ∧ i = .int .i64 (k : Int) ∧ wr = w ∧ (0 < k → c0 = 0) ∧ (1 < k → c1 = 0) ∧ (2 < k → c2 = 0)) (fun i _ => 3 - (intOf i).toNat)
  case atStart => exact ⟨0, by omega, rfl, rfl, by omega, by omega, by omega⟩
  case round =>
    obtain ⟨k, hk, rfl, rfl, hk0, hk1, hk2⟩ := hrel
    by_cases e0 : k = 0
    · subst e0
      clear hk hk0 hk1 hk2
      go_wp2_with fail
      refine C0.out.mono ?_
      rintro e w ⟨rfl, rfl⟩
      by_cases z : c0 = 0
      · subst z
        go_wp2_with fail
        exact ⟨⟨1, by omega, by first | rfl | trivial, by first | rfl | trivial, fun _ => by first | rfl | trivial, by omega, by omega⟩, by simp [intOf]⟩
      · obtain rfl : V = c0 := by have hv := HV.out; simp [z] at hv; exact hv.symm
        have hz : ((V == 0) : Bool) = false := by simpa using z
        clear z
        go_wp2_with fail
        go_ret
        exact ⟨rfl, rfl⟩
    by_cases e1 : k = 1
    · subst e1
      obtain rfl := hk0 (by omega)
      clear hk hk1 hk2
      go_wp2_with fail
      refine C1.out.mono ?_
      rintro e w ⟨rfl, rfl⟩
      by_cases z : c1 = 0
      · subst z
        go_wp2_with fail
        exact ⟨⟨2, by omega, by first | rfl | trivial, by first | rfl | trivial, fun _ => by first | rfl | trivial, fun _ => by first | rfl | trivial, by omega⟩, by simp [intOf]⟩
      · obtain rfl : V = c1 := by have hv := HV.out; simp [z] at hv; exact hv.symm
        have hz : ((V == 0) : Bool) = false := by simpa using z
        clear z
        go_wp2_with fail
        go_ret
        exact ⟨rfl, rfl⟩
    by_cases e2 : k = 2
    · subst e2
      obtain rfl := hk0 (by omega)
      obtain rfl := hk1 (by omega)
      clear hk hk2
      go_wp2_with fail
      refine C2.out.mono ?_
      rintro e w ⟨rfl, rfl⟩
      by_cases z : c2 = 0
      · subst z
        go_wp2_with fail
        exact ⟨⟨3, by omega, by first | rfl | trivial, by first | rfl | trivial, fun _ => by first | rfl | trivial, fun _ => by first | rfl | trivial, fun _ => by first | rfl | trivial⟩, by simp [intOf]⟩
      · obtain rfl : V = c2 := by have hv := HV.out; simp at hv; exact hv.symm
        have hz : ((V == 0) : Bool) = false := by simpa using z
        clear z
        go_wp2_with fail
        go_ret
        exact ⟨rfl, rfl⟩
    obtain rfl : k = 3 := by omega
    obtain rfl := hk0 (by omega)
    obtain rfl := hk1 (by omega)
    obtain rfl := hk2 (by omega)
    obtain rfl : V = 0 := by have hv := HV.out; simp at hv; exact hv.symm
    go_wp2_with fail
    go_ret
    exact ⟨rfl, rfl⟩

end Go.Proofs.YtcbkehnlgpcelaaGreatDoor
