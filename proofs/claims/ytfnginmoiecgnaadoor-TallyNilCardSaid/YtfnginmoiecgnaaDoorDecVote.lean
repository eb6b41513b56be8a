/- Walks: forms.decode at api.Vote. Walks: nuncio/forms.DecodeVote$1, nuncio/forms.DecodeVote. -/
import Derived.Test.YtfnginmoiecgnaaDoorDecode
import Derived.Deep.Cut
import Derived.Deep.CutRange
import Derived.Test.YtfnginmoiecgnaaDoorBuild
import Derived.Test.YtfnginmoiecgnaaDoorReadH
import Derived.Test.YtfnginmoiecgnaaDoorDecPacket
import Derived.Test.YtfnginmoiecgnaaDoorVote
namespace Go.Proofs.YtfnginmoiecgnaaDoor
open Go.RowKit
set_option maxRecDepth 100000

/-- the zero value's cells -/
def ZVote : List Value := [.string ⟨#[]⟩, .int .i64 0, .int .i64 0, .int .i64 0] ++ Lib.byteCells (List.replicate 32 0) ++ [.int .u64 0, .int .u64 0, .int .u64 0]
theorem ZVote_info : (Tryd.prog.info? 29).map (fun i => i.zero.map (fun v => v.cells)) = some (some ZVote.toArray) := by kernel_rfl
theorem ZVote_length : ZVote.length = 39 := by rfl
theorem sizeVote (cs : List Value) (h : cs.length = 39) : (Tryd.prog.info? 29).map (·.size) = some cs.length := by rw [h]; kernel_rfl
theorem ZVote_one : ∀ v ∈ ZVote, v.oneCell' = true := fun v hv => List.all_eq_true.1 (show ZVote.all (·.oneCell') = true by kernel_rfl) v hv

/-- a signature, read -/
def rdSig (s : RS) : (Nat × Nat) × RS := (((rdWord s).1, (rdWord (rdWord s).2).1), (rdWord (rdWord s).2).2)
def sigCells (s : Nat × Nat) : List Value := [.int .u64 s.1, .int .u64 s.2]
theorem rdWord_R (s : RS) : u64R (rdWord s).1 := by
  unfold rdWord u64R
  cases s with
  | none => simp
  | some l =>
    dsimp only
    split
    · rename_i h
      have := ofBe_lt (l.take 8)
      rw [List.length_take, Nat.min_eq_left h] at this
      refine ⟨by omega, by omega⟩
    · simp
theorem rdSig_R (s : RS) : u64R (rdSig s).1.1 ∧ u64R (rdSig s).1.2 := ⟨rdWord_R _, rdWord_R _⟩
def voteS0 (s : RS) : RS := s
def voteS1 (s : RS) : RS := (rdText (voteS0 s)).2
def voteS2 (s : RS) : RS := (rdNum (voteS1 s)).2
def voteS3 (s : RS) : RS := (rdNum (voteS2 s)).2
def voteS4 (s : RS) : RS := (rdNum (voteS3 s)).2
def voteS5 (s : RS) : RS := (rdHash (voteS4 s)).2
def voteS6 (s : RS) : RS := (rdWord (voteS5 s)).2
def voteS7 (s : RS) : RS := (rdSig (voteS6 s)).2
/-- what stands next, read as a vote; behind its kind -/
def rdVote (s : RS) : VoteD × RS := ({ chain := ⟨(rdText (voteS0 s)).1.toArray⟩, height := (rdNum (voteS1 s)).1, round := (rdNum (voteS2 s)).1, type := (rdNum (voteS3 s)).1, block := (rdHash (voteS4 s)).1, key := (rdWord (voteS5 s)).1, r := (rdSig (voteS6 s)).1.1, s := (rdSig (voteS6 s)).1.2 }, voteS7 s)
def decVote (l : List UInt8) : Option VoteD :=
  if (rdNum (some l)).1 = 1 ∧ (rdVote (rdNum (some l)).2).2 = some [] ∧ okVote (rdVote (rdNum (some l)).2).1 = true then some (rdVote (rdNum (some l)).2).1 else none
theorem rdVote_wf (s : RS) : (rdVote s).1.wf := ⟨str_ok (rdText_len _), rdNum_R _, rdNum_R _, rdNum_R _, rdHash_len _, rdWord_R _, (rdSig_R _).1, (rdSig_R _).2⟩
def rdVote_vs (s0 : RS) : List Value := [.string ⟨(rdText (voteS0 s0)).1.toArray⟩, .int .i64 (rdNum (voteS1 s0)).1, .int .i64 (rdNum (voteS2 s0)).1, .int .i64 (rdNum (voteS3 s0)).1, .agg (Lib.byteCells (rdHash (voteS4 s0)).1).toArray, .int .u64 (rdWord (voteS5 s0)).1, .agg (sigCells (rdSig (voteS6 s0)).1).toArray]
theorem rdVote_flat (s0 : RS) : flatCells (rdVote_vs s0) = (rdVote s0).1.cells := by simp [flatCells, rdVote_vs, rdVote, VoteD.cells, Value.cells, sigCells]
theorem rdVote_laid (s0 : RS) : Laid (([(0, 1), (1, 1), (2, 1), (3, 1), (4, 32), (36, 1), (37, 2)] : List (Nat × Nat)).toArray[·]?) 0 0 (rdVote_vs s0) := by
  refine ⟨?_, ?_, ?_, ?_, ?_, ?_, ?_, trivial⟩ <;> simp [Value.cells, Lib.byteCells_length, rdHash_len, sigCells]
theorem VoteD_one (v : VoteD) : ∀ x ∈ v.cells, x.oneCell' = true := by
  have hb := fun (l : List UInt8) x (h : x ∈ Lib.byteCells l) => oneCell_bytes l x h
  intro x hx
  simp only [VoteD.cells, List.mem_append, List.mem_cons, List.not_mem_nil, or_false] at hx
  grind [Value.oneCell']

theorem enters_checkVote : ∀ args w, (callFunc 76 args).run Tryd.prog w = .ok (.enter 76 args) w := enters Tryd.func76 (by kernel_rfl) rfl

theorem decVote_wf {l : List UInt8} {v : VoteD} (h : decVote l = some v) : v.wf := by
  unfold decVote at h
  split at h
  · injection h with h; subst h; exact rdVote_wf _
  · cases h
theorem decVote_t (l : List UInt8) (hk : (rdNum (some l)).1 = 1) (h : (decide ((rdVote (rdNum (some l)).2).2 = some []) && okVote (rdVote (rdNum (some l)).2).1) = true) : (decVote l).map VoteD.cells = some (rdVote (rdNum (some l)).2).1.cells := by
  rw [Bool.and_eq_true] at h
  unfold decVote
  rw [if_pos ⟨hk, of_decide_eq_true h.1, h.2⟩]; rfl
theorem decVote_f (l : List UInt8) (h : (decide ((rdVote (rdNum (some l)).2).2 = some []) && okVote (rdVote (rdNum (some l)).2).1) = false) : (decVote l).map VoteD.cells = none := by
  unfold decVote
  rw [if_neg]; · rfl
  intro hc
  rw [hc.2.2, decide_eq_true hc.2.1] at h
  cases h
theorem decVote_k (l : List UInt8) (hk : (rdNum (some l)).1 ≠ 1) : (decVote l).map VoteD.cells = none := by
  unfold decVote
  rw [if_neg (fun h => hk h.1)]; rfl

end Go.Proofs.YtfnginmoiecgnaaDoor
