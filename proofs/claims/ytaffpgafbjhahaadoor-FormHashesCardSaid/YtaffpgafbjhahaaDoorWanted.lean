/- Walk: nunciolaw06.wanted. -/
import Derived.Test.YtaffpgafbjhahaaDoorRefQ
import Derived.Test.YtaffpgafbjhahaaDoorLaw
namespace Go.Proofs.YtaffpgafbjhahaaDoor
open Go.RowKit
set_option maxRecDepth 100000

/-- what an encoding left -/
def EncW (ok : Bool) (l : List UInt8) (s : Value) (c : Int) (w : World) : Prop := (ok = true ∧ c = 0 ∧ RdB w s l) ∨ (ok = false ∧ c = 61 ∧ s = .slice none 0 0)
theorem EncW.gr {ok : Bool} {l : List UInt8} {s : Value} {c : Int} {w w' : World} (h : EncW ok l s c w) (hg : w.grownBy w' none) : EncW ok l s c w' := by
  rcases h with ⟨h1, h2, h3⟩ | h
  · exact Or.inl ⟨h1, h2, h3.grown hg⟩
  · exact Or.inr h
theorem EncW.of {ok : Bool} {l : List UInt8} {w w' : World} {e : Ending} (h : Enc ok l w e w') : ∃ a n k c, e = .returned (.tuple #[.slice a n k, .int .i64 c]) ∧ EncW ok l (.slice a n k) c w' ∧ w.grownBy w' none := by
  cases ok with
  | true =>
    obtain ⟨a, n, k, rfl, h1, h2⟩ := h
    exact ⟨a, n, k, 0, rfl, Or.inl ⟨rfl, rfl, h1.rd⟩, below_grown h2⟩
  | false =>
    obtain ⟨rfl, h2⟩ := h
    exact ⟨none, 0, 0, 61, rfl, Or.inr ⟨rfl, rfl, rfl⟩, below_grown h2⟩
/-- what the document's encoding left -/
def RefW (ok : Bool) (l : List UInt8) (s : Value) (w : World) : Prop := ok = true → RdB w s l
theorem RefW.gr {ok : Bool} {l : List UInt8} {s : Value} {w w' : World} (h : RefW ok l s w) (hg : w.grownBy w' none) : RefW ok l s w' := fun k => (h k).grown hg
theorem RefW.ofIf {ok : Bool} {l : List UInt8} {w w' : World} {e : Ending} (h : BytesIf l ok w e w') : ∃ a n k, e = .returned (.tuple #[.slice a n k, .bool ok]) ∧ RefW ok l (.slice a n k) w' ∧ w.grownBy w' none := by
  obtain ⟨a, n, k, h1, h2, h3⟩ := h
  exact ⟨a, n, k, h1, fun q => (h2 q).rd, below_grown h3⟩
theorem RefW.ofOk {ok : Bool} {l l' : List UInt8} {w w' : World} {e : Ending} (h : BytesOk l ok w e w') (hl : ok = true → l = l') : ∃ a n k, e = .returned (.tuple #[.slice a n k, .bool ok]) ∧ RefW ok l' (.slice a n k) w' ∧ w.grownBy w' none := by
  obtain ⟨a, n, k, h1, h2, h3⟩ := h
  exact ⟨a, n, k, h1, fun q => hl q ▸ h2.rd, below_grown h3⟩

set_option maxHeartbeats 400000 in
theorem wanted_any (ok : Bool) (l : List UInt8) (a b : Option Addr) (n k m j : Nat) (c : Int) (w : World) (h1 : EncW ok l (.slice a n k) c w) (h2 : RefW ok l (.slice b m j) w) :
    Calls Tryd.prog 18 #[.slice a n k, .int .i64 c, .slice b m j, .bool ok] w fun e w' => e = .returned (.bool true) ∧ w = w' := by
  rcases h1 with ⟨rfl, rfl, hr⟩ | ⟨rfl, rfl, hs⟩
  · have R1 := Lib.hid hr; have R2 := Lib.hid (h2 rfl)
    clear hr h2
    go_enter Tryd.func18, Tryd.ntmps18
    go_wp2_with fail
    refine (Same_any _ _ l l _ R1.out R2.out).mono ?_
    rintro e w' ⟨rfl, rfl⟩
    rw [show (l == l) = true from by simp]
    go_wp2_with fail
    go_ret
    exact ⟨rfl, rfl⟩
  · injection hs with e1 e2 e3
    subst e1 e2 e3
    clear h2
    go_enter Tryd.func18, Tryd.ntmps18
    go_wp2
    go_ret
    exact ⟨rfl, rfl⟩

end Go.Proofs.YtaffpgafbjhahaaDoor
