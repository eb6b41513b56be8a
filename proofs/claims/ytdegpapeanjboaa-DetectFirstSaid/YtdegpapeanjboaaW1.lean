/- Walks: forms.must, within, name. -/
import Derived.Test.YtdegpapeanjboaaRows
import Derived.Test.YtdegpapeanjboaaBase
namespace Go.Proofs.Ytdegpapeanjboaa
open Go.RowKit

def inR (n lo hi : Int) : Bool := decide (lo ≤ n) && decide (n ≤ hi)

/-- a name: 1 to 16 letters a to z -/
def letter (c : UInt8) : Bool := decide (97 ≤ c.toNat) && decide (c.toNat ≤ 122)
def nameL (l : List UInt8) : Bool := decide (1 ≤ l.length) && decide (l.length ≤ 16) && l.all letter

theorem letter_all_snoc (l : List UInt8) (k : Nat) (h : k < l.length) : (l.take (k + 1)).all letter = ((l.take k).all letter && letter l[k]) := by
  rw [List.take_succ_eq_append_getElem h, List.all_append]; simp
theorem letter_all_no (l : List UInt8) (k : Nat) (h : k < l.length) (hn : letter l[k] = false) : l.all letter = false := by
  rw [List.all_eq_false]; exact ⟨l[k], List.getElem_mem h, by simp [hn]⟩

theorem nameL_no (l : List UInt8) (h : l.all letter = false) : nameL l = false := by unfold nameL; rw [h]; simp
theorem nameL_yes (l : List UInt8) (h1 : 1 ≤ l.length) (h2 : l.length ≤ 16) (h : l.all letter = true) : nameL l = true := by unfold nameL; rw [h]; simp [h1, h2]
theorem letter_no (u : UInt8) (h : u.toNat < 97 ∨ 122 < u.toNat) : letter u = false := by simp [letter]; omega

end Go.Proofs.Ytdegpapeanjboaa
