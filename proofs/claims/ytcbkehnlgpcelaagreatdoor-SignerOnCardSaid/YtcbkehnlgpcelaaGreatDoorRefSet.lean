/- Walks: nuncioref06.Set, Commit, Light. Walks: nuncioref06.Commit. Walk: nunciolaw06.wanted. -/
import Derived.Test.YtcbkehnlgpcelaaGreatDoorRefD
import Derived.Test.YtcbkehnlgpcelaaGreatDoorEncode
import Derived.Test.YtcbkehnlgpcelaaGreatDoorLaw
namespace Go.Proofs.YtcbkehnlgpcelaaGreatDoor
open Go.RowKit
set_option maxRecDepth 100000

/-- the document's bytes of validators: of no more than 65 -/
def refSet (l : List ValD) : List UInt8 := be64 3 ++ be64 l.length ++ encVals (l.take 65)
theorem refSet_ok {l : List ValD} (h : okSet l = true) : refSet l = encSet l := by
  have : l.length ≤ 64 := of_decide_eq_true h
  unfold refSet encSet; rw [List.take_of_length_le (by omega)]
theorem refSet_len (l : List ValD) : (refSet l).length ≤ 1056 := by
  unfold refSet
  have : (l.take 65).length ≤ 65 := by rw [List.length_take]; omega
  simp only [List.length_append, be64_length, encVals_length]; omega
def refCommit (c : CommitD) : List UInt8 := be64 4 ++ be64 c.height ++ be64 c.round ++ c.block ++ be64 c.seals.length ++ encSeals (c.seals.take 65)
theorem refCommit_ok {c : CommitD} (h : okCommitN c = true) : refCommit c = encCommit c := by
  simp only [okCommitN, Bool.and_eq_true, decide_eq_true_eq] at h
  unfold refCommit encCommit; rw [List.take_of_length_le (by omega)]
theorem refCommit_len (c : CommitD) (hc : c.wf) : (refCommit c).length ≤ 1624 := by
  unfold refCommit
  have : (c.seals.take 65).length ≤ 65 := by rw [List.length_take]; omega
  simp only [List.length_append, be64_length, encSeals_length, hc.block]; omega
def refLight (l : LightD) : List UInt8 := be64 5 ++ encHeader l.header ++ refCommit l.commit ++ refSet l.set ++ refSet l.next
theorem refLight_ok {l : LightD} (h : okLight l = true) : refLight l = encLight l := by
  simp only [okLight, Bool.and_eq_true] at h
  unfold refLight encLight
  rw [refCommit_ok h.2.1, refSet_ok h.2.2.1, refSet_ok h.2.2.2]

theorem ret_two {s : Value} {a b : Bool} (h : a = b) : Ending.returned (.tuple #[s, .bool a]) = .returned (.tuple #[s, .bool b]) := by rw [h]

/-- what an encoding left -/
def EncW (ok : Bool) (l : List UInt8) (s : Value) (c : Int) (w : World) : Prop := (ok = true ∧ c = 0 ∧ RdB w s l) ∨ (ok = false ∧ c = 61 ∧ s = .slice none 0 0)
theorem EncW.gr {ok : Bool} {l : List UInt8} {s : Value} {c : Int} {w w' : World} (h : EncW ok l s c w) (hg : w.grownBy w' none) : EncW ok l s c w' := by
  rcases h with ⟨h1, h2, h3⟩ | h
  · exact Or.inl ⟨h1, h2, h3.grown hg⟩
  · exact Or.inr h
theorem EncW.of {ok : Bool} {l : List UInt8} {w w' : World} {e : Ending} (h : Enc ok l w e w') : ∃ a n k c, e = .returned (.tuple #[.slice a n k, .int .i64 c]) ∧ EncW ok l (.slice a n k) c w' ∧ w.grownBy w' none := by
  cases ok with
  | true =>
    obtain ⟨a, n, k, rfl, h1, h2⟩ := h
    exact ⟨a, n, k, 0, rfl, Or.inl ⟨rfl, rfl, h1.rd⟩, below_grown h2⟩
  | false =>
    obtain ⟨rfl, h2⟩ := h
    exact ⟨none, 0, 0, 61, rfl, Or.inr ⟨rfl, rfl, rfl⟩, below_grown h2⟩
/-- what the document's encoding left -/
def RefW (ok : Bool) (l : List UInt8) (s : Value) (w : World) : Prop := ok = true → RdB w s l
theorem RefW.gr {ok : Bool} {l : List UInt8} {s : Value} {w w' : World} (h : RefW ok l s w) (hg : w.grownBy w' none) : RefW ok l s w' := fun k => (h k).grown hg
theorem RefW.ofIf {ok : Bool} {l : List UInt8} {w w' : World} {e : Ending} (h : BytesIf l ok w e w') : ∃ a n k, e = .returned (.tuple #[.slice a n k, .bool ok]) ∧ RefW ok l (.slice a n k) w' ∧ w.grownBy w' none := by
  obtain ⟨a, n, k, h1, h2, h3⟩ := h
  exact ⟨a, n, k, h1, fun q => (h2 q).rd, below_grown h3⟩
theorem RefW.ofOk {ok : Bool} {l l' : List UInt8} {w w' : World} {e : Ending} (h : BytesOk l ok w e w') (hl : ok = true → l = l') : ∃ a n k, e = .returned (.tuple #[.slice a n k, .bool ok]) ∧ RefW ok l' (.slice a n k) w' ∧ w.grownBy w' none := by
  obtain ⟨a, n, k, h1, h2, h3⟩ := h
  exact ⟨a, n, k, h1, fun q => hl q ▸ h2.rd, below_grown h3⟩

end Go.Proofs.YtcbkehnlgpcelaaGreatDoor
