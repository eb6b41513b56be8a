/- Walks: nuncioref02.Reader. Walks: nuncioref02.Reader's Text.. Walks: nuncioref02.Reader's Hash. -/
import Derived.Test.YtdhchehagfmjcaaGreatDoorDecPacket
import Derived.Test.YtdhchehagfmjcaaGreatDoorReadH
import Derived.Deep.OwnRows
import Derived.Deep.QuietTactic
import Derived.BigQuiet
namespace Go.Proofs.YtdhchehagfmjcaaGreatDoor
open Go.RowKit
set_option maxRecDepth 100000

theorem IsR.again {w : World} {p : Nat} (h : IsR w p none) : IsR (w.setCell ⟨p, 1, none⟩ (.bool true)) p none := by
  obtain ⟨f0, f1, ⟨ao, n, c, h3⟩, h4⟩ := h
  exact ⟨by simpa using f0, by simpa using f1, ⟨ao, n, c, (World.cell?_setCell_other _ _ _ _ (by simp)).trans h3⟩, World.cell?_setCell_same' _ _ _ (by rw [h4]; rfl)⟩
end Go.Proofs.YtdhchehagfmjcaaGreatDoor
