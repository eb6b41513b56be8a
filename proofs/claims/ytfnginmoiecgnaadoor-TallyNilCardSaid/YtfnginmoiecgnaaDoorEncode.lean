/- Walks: forms.EncodeHeader, EncodeSet, EncodeCommit, EncodeLight. Walks: forms.EncodeLight, EncodeCommit. -/
import Derived.Test.YtfnginmoiecgnaaDoorEncL
namespace Go.Proofs.YtfnginmoiecgnaaDoor
open Go.RowKit
set_option maxRecDepth 100000

def okSet (l : List ValD) : Bool := decide (l.length ≤ 64)
def okCommitN (c : CommitD) : Bool := okCommit c && decide (c.seals.length ≤ 64)
def okLight (l : LightD) : Bool := okHeader l.header && (okCommitN l.commit && (okSet l.set && okSet l.next))
def encLight (l : LightD) : List UInt8 := be64 5 ++ encHeader l.header ++ encCommit l.commit ++ encSet l.set ++ encSet l.next
/-- what an encoding answers -/
def Enc (ok : Bool) (l : List UInt8) (w : World) (e : Ending) (w' : World) : Prop := if ok then Gives l w e w' else Fails w e w'
theorem Enc.y {ok : Bool} {l : List UInt8} {w w' : World} {e : Ending} (h : ok = true) (hg : Gives l w e w') : Enc ok l w e w' := by unfold Enc; rw [if_pos h]; exact hg
theorem Enc.n {ok : Bool} {l : List UInt8} {w w' : World} {e : Ending} (h : ok = false) (hg : Fails w e w') : Enc ok l w e w' := by unfold Enc; rw [h]; exact hg

theorem encHeader_pos (d : HeaderD) : 0 < (encHeader d).length := by simp [encHeader, be64_length]; omega
theorem encHeader_len (d : HeaderD) (hv : d.wf) (h : okHeader d = true) : (encHeader d).length ≤ 1000 := by
  have := okHeader_len h
  simp [encHeader, be64_length, textL_length, hv.last, hv.set, hv.next, hv.data, hv.app]; omega
theorem encSet_pos (d : List ValD) : 0 < (encSet d).length := by rw [encSet_length]; omega
theorem encCommit_length (c : CommitD) (hc : c.wf) : (encCommit c).length = 64 + 24 * c.seals.length := by simp [encCommit, be64_length, encSeals_length, hc.block]; omega

/-- one cell, below block B0: it stays -/
theorem RowAt.box1 {w W : World} {x : Value} {T : TypeId} (h : w.alloc (.cells #[x] T) = W) : RowAt W w.heap.size 0 [x] := h ▸ RowAt_box w [x] T

theorem LightD.parts {B : Nat} {w : World} {l : LightD} {cs : List Value} (h : l.rep B w cs) (hl : l.wf) : cs.take 163 = l.header.cells ∧ (∃ cc, l.commit.rep B w cc ∧ (cs.drop 163).take 35 = cc) ∧
    (∃ sv, RdS B w sv l.set.length 2 (setCells l.set) ∧ cs[198]? = some sv) ∧ (∃ nv, RdS B w nv l.next.length 2 (setCells l.next) ∧ cs[199]? = some nv) := by
  obtain ⟨cc, sv, nv, h1, h2, h3, rfl⟩ := h
  have e1 := l.header.cells_length hl.header
  have e2 := h1.length hl.commit
  refine ⟨?_, ⟨cc, h1, ?_⟩, ⟨sv, h2, ?_⟩, ⟨nv, h3, ?_⟩⟩
  · rw [List.append_assoc, List.take_left' e1]
  · rw [List.append_assoc, List.drop_left' e1, List.take_left' e2]
  · rw [List.getElem?_append_right (by simp [e1, e2])]; simp [e1, e2]
  · rw [List.getElem?_append_right (by simp [e1, e2])]; simp [e1, e2]

theorem okLight_open {l : LightD} (h : okLight l = true) : okHeader l.header = true ∧ okCommit l.commit = true ∧ l.commit.seals.length ≤ 64 ∧ l.set.length ≤ 64 ∧ l.next.length ≤ 64 := by
  simp only [okLight, okCommitN, okSet, Bool.and_eq_true, decide_eq_true_eq] at h
  exact ⟨h.1, h.2.1.1, h.2.1.2, h.2.2.1, h.2.2.2⟩
theorem encLight_pos (l : LightD) : 0 < (encLight l).length := by simp [encLight, be64_length]; omega
theorem encLight_len (l : LightD) (hl : l.wf) (h : okLight l = true) : (encLight l).length ≤ 10000 := by
  obtain ⟨h1, h2, h3, h4, h5⟩ := okLight_open h
  have := encHeader_len _ hl.header h1
  have := encCommit_length _ hl.commit
  have := encSet_length l.set
  have := encSet_length l.next
  simp only [encLight, List.length_append, be64_length]; omega

end Go.Proofs.YtfnginmoiecgnaaDoor
