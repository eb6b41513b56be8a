/- Walks: forms.checkVote, EncodeVote, SignBytes. Walks: forms.decode at api.Vote. Walks: nuncio/forms.DecodeVote$1, nuncio/forms.DecodeVote. -/
import Derived.Test.YtlahdaanfhedoaaDoorForms
import Derived.Deep.Cut
import Derived.Deep.CutRange
import Derived.Test.YtlahdaanfhedoaaDoorDecode
import Derived.Test.YtlahdaanfhedoaaDoorBuild
import Derived.Test.YtlahdaanfhedoaaDoorReadH
import Derived.Test.YtlahdaanfhedoaaDoorDecPacket
namespace Go.Proofs.YtlahdaanfhedoaaDoor
open Go.RowKit
set_option maxRecDepth 100000

/-- a vote, as data -/
structure VoteD where
  chain : ByteArray
  height : Int
  round : Int
  type : Int
  block : List UInt8
  key : Int
  r : Int
  s : Int
structure VoteD.wf (v : VoteD) : Prop where
  chain : v.chain.size ≤ maxLen
  height : i64R v.height
  round : i64R v.round
  type : i64R v.type
  block : v.block.length = 32
  key : u64R v.key
  r : u64R v.r
  s : u64R v.s
def VoteD.cells (v : VoteD) : List Value := [.string v.chain, .int .i64 v.height, .int .i64 v.round, .int .i64 v.type] ++ Lib.byteCells v.block ++ [.int .u64 v.key, .int .u64 v.r, .int .u64 v.s]
def VoteD.val (v : VoteD) : Value := .agg v.cells.toArray
theorem VoteD.cells_length (v : VoteD) (h : v.wf) : v.cells.length = 39 := by simp [VoteD.cells, Lib.byteCells_length, h.block]
/-- what is read of its row -/
structure VoteD.At (w : World) (m o : Nat) (v : VoteD) : Prop where
  row : RowAt w m o v.cells
  chain : w.cell? ⟨m, o + 0, none⟩ = some (.string v.chain)
  height : w.cell? ⟨m, o + 1, none⟩ = some (.int .i64 v.height)
  round : w.cell? ⟨m, o + 2, none⟩ = some (.int .i64 v.round)
  type : w.cell? ⟨m, o + 3, none⟩ = some (.int .i64 v.type)
  block : RowAt w m (o + 4) (Lib.byteCells v.block)
  key : w.cell? ⟨m, o + 36, none⟩ = some (.int .u64 v.key)
  r : w.cell? ⟨m, o + 37, none⟩ = some (.int .u64 v.r)
  s : w.cell? ⟨m, o + 38, none⟩ = some (.int .u64 v.s)
theorem VoteD.At.of_row {w : World} {m o : Nat} {v : VoteD} (hv : v.wf) (h : RowAt w m o v.cells) : VoteD.At w m o v := by
  refine ⟨h, ?_, ?_, ?_, ?_, ?_, ?_, ?_, ?_⟩
  · exact h 0 _ (by simp [VoteD.cells, Lib.byteCells_length, hv.block])
  · exact h 1 _ (by simp [VoteD.cells, Lib.byteCells_length, hv.block])
  · exact h 2 _ (by simp [VoteD.cells, Lib.byteCells_length, hv.block])
  · exact h 3 _ (by simp [VoteD.cells, Lib.byteCells_length, hv.block])
  · have e : (v.cells.drop 4).take 32 = Lib.byteCells v.block := by simp [VoteD.cells, List.drop_append, Lib.byteCells_length, hv.block]
    exact e ▸ h.part 4 32
  · exact h 36 _ (by simp [VoteD.cells, Lib.byteCells_length, hv.block])
  · exact h 37 _ (by simp [VoteD.cells, Lib.byteCells_length, hv.block])
  · exact h 38 _ (by simp [VoteD.cells, Lib.byteCells_length, hv.block])
theorem VoteD.At.below {B : Nat} {w w' : World} {m o : Nat} {v : VoteD} (h : VoteD.At w m o v) (hv : v.wf) (hb : Below B w w') (hm : m < B) : VoteD.At w' m o v := VoteD.At.of_row hv (h.row.below hb hm)
def okVote (v : VoteD) : Bool := nameL v.chain.data.toList && (inR v.height 1 1099511627776 && (inR v.round 0 1048576 && (inR v.type 1 2)))
def encVote (v : VoteD) : List UInt8 := be64 1 ++ textL v.chain ++ be64 v.height ++ be64 v.round ++ be64 v.type ++ v.block ++ be64 v.key ++ be64 v.r ++ be64 v.s
theorem okVote_len {v : VoteD} (h : okVote v = true) : v.chain.size ≤ 16 := by
  unfold okVote at h; simp only [Bool.and_eq_true] at h
  have := (nameL_len h.1).2
  simpa using this

theorem encVote_pos (v : VoteD) : 0 < (encVote v).length := by simp [encVote, be64_length]; omega
theorem encVote_len (v : VoteD) (hv : v.wf) (h : okVote v = true) : (encVote v).length ≤ 1000 := by
  have := okVote_len h
  simp [encVote, be64_length, textL_length, hv.block]; omega

/-- the vote that is signed -/
def VoteD.bare (v : VoteD) : VoteD := { v with key := 0, r := 0, s := 0 }
theorem VoteD.bare_wf {v : VoteD} (h : v.wf) : v.bare.wf := ⟨h.chain, h.height, h.round, h.type, h.block, ⟨by simp [VoteD.bare], by simp [VoteD.bare]⟩, ⟨by simp [VoteD.bare], by simp [VoteD.bare]⟩, ⟨by simp [VoteD.bare], by simp [VoteD.bare]⟩⟩

theorem bare_world {v : VoteD} {w W : World} (hv : v.wf) (hrow : RowAt W w.heap.size 0 v.cells) (hb : Below w.heap.size w W) :
    ∃ W3, ((W.setCell ⟨w.heap.size, 36, none⟩ (.int .u64 0)).setCell ⟨w.heap.size, 37, none⟩ (.int .u64 0)).setCell ⟨w.heap.size, 38, none⟩ (.int .u64 0) = W3 ∧ RowAt W3 w.heap.size 0 v.bare.cells ∧ Below w.heap.size w W3 := by
  have hl := v.cells_length hv
  have h1 := ((hrow.set 36 (by omega) (.int .u64 0)).set 37 (by simp; omega) (.int .u64 0)).set 38 (by simp; omega) (.int .u64 0)
  simp only [Nat.zero_add] at h1
  refine ⟨_, rfl, ?_, ((hb.setCell (by simp) _).setCell (by simp) _).setCell (by simp) _⟩
  have e : ((v.cells.set 36 (.int .u64 0)).set 37 (.int .u64 0)).set 38 (.int .u64 0) = v.bare.cells := by
    unfold VoteD.cells VoteD.bare
    generalize hp : [Value.string v.chain, .int .i64 v.height, .int .i64 v.round, .int .i64 v.type] ++ Lib.byteCells v.block = p
    have hlen : p.length = 36 := by rw [← hp]; simp [Lib.byteCells_length, hv.block]
    rw [List.set_append_right _ _ (by omega), List.set_append_right _ _ (by omega), List.set_append_right _ _ (by omega), hlen]
    rfl
  rwa [e] at h1

theorem okVote_bare (v : VoteD) : okVote v.bare = okVote v := rfl

/-- the zero value's cells -/
def ZVote : List Value := [.string ⟨#[]⟩, .int .i64 0, .int .i64 0, .int .i64 0] ++ Lib.byteCells (List.replicate 32 0) ++ [.int .u64 0, .int .u64 0, .int .u64 0]
theorem ZVote_length : ZVote.length = 39 := by rfl
theorem ZVote_one : ∀ v ∈ ZVote, v.oneCell' = true := fun v hv => List.all_eq_true.1 (show ZVote.all (·.oneCell') = true by kernel_rfl) v hv

/-- a signature, read -/
def rdSig (s : RS) : (Nat × Nat) × RS := (((rdWord s).1, (rdWord (rdWord s).2).1), (rdWord (rdWord s).2).2)
def sigCells (s : Nat × Nat) : List Value := [.int .u64 s.1, .int .u64 s.2]
theorem rdWord_R (s : RS) : u64R (rdWord s).1 := by
  unfold rdWord u64R
  cases s with
  | none => simp
  | some l =>
    dsimp only
    split
    · rename_i h
      have := ofBe_lt (l.take 8)
      rw [List.length_take, Nat.min_eq_left h] at this
      refine ⟨by omega, by omega⟩
    · simp
theorem rdSig_R (s : RS) : u64R (rdSig s).1.1 ∧ u64R (rdSig s).1.2 := ⟨rdWord_R _, rdWord_R _⟩
def voteS0 (s : RS) : RS := s
def voteS1 (s : RS) : RS := (rdText (voteS0 s)).2
def voteS2 (s : RS) : RS := (rdNum (voteS1 s)).2
def voteS3 (s : RS) : RS := (rdNum (voteS2 s)).2
def voteS4 (s : RS) : RS := (rdNum (voteS3 s)).2
def voteS5 (s : RS) : RS := (rdHash (voteS4 s)).2
def voteS6 (s : RS) : RS := (rdWord (voteS5 s)).2
def voteS7 (s : RS) : RS := (rdSig (voteS6 s)).2
/-- what stands next, read as a vote; behind its kind -/
def rdVote (s : RS) : VoteD × RS := ({ chain := ⟨(rdText (voteS0 s)).1.toArray⟩, height := (rdNum (voteS1 s)).1, round := (rdNum (voteS2 s)).1, type := (rdNum (voteS3 s)).1, block := (rdHash (voteS4 s)).1, key := (rdWord (voteS5 s)).1, r := (rdSig (voteS6 s)).1.1, s := (rdSig (voteS6 s)).1.2 }, voteS7 s)
def decVote (l : List UInt8) : Option VoteD :=
  if (rdNum (some l)).1 = 1 ∧ (rdVote (rdNum (some l)).2).2 = some [] ∧ okVote (rdVote (rdNum (some l)).2).1 = true then some (rdVote (rdNum (some l)).2).1 else none
theorem rdVote_wf (s : RS) : (rdVote s).1.wf := ⟨str_ok (rdText_len _), rdNum_R _, rdNum_R _, rdNum_R _, rdHash_len _, rdWord_R _, (rdSig_R _).1, (rdSig_R _).2⟩
def rdVote_vs (s0 : RS) : List Value := [.string ⟨(rdText (voteS0 s0)).1.toArray⟩, .int .i64 (rdNum (voteS1 s0)).1, .int .i64 (rdNum (voteS2 s0)).1, .int .i64 (rdNum (voteS3 s0)).1, .agg (Lib.byteCells (rdHash (voteS4 s0)).1).toArray, .int .u64 (rdWord (voteS5 s0)).1, .agg (sigCells (rdSig (voteS6 s0)).1).toArray]
theorem rdVote_flat (s0 : RS) : flatCells (rdVote_vs s0) = (rdVote s0).1.cells := by simp [flatCells, rdVote_vs, rdVote, VoteD.cells, Value.cells, sigCells]
theorem rdVote_laid (s0 : RS) : Laid (([(0, 1), (1, 1), (2, 1), (3, 1), (4, 32), (36, 1), (37, 2)] : List (Nat × Nat)).toArray[·]?) 0 0 (rdVote_vs s0) := by
  refine ⟨?_, ?_, ?_, ?_, ?_, ?_, ?_, trivial⟩ <;> simp [Value.cells, Lib.byteCells_length, rdHash_len, sigCells]
theorem VoteD_one (v : VoteD) : ∀ x ∈ v.cells, x.oneCell' = true := by
  have hb := fun (l : List UInt8) x (h : x ∈ Lib.byteCells l) => oneCell_bytes l x h
  intro x hx
  simp only [VoteD.cells, List.mem_append, List.mem_cons, List.not_mem_nil, or_false] at hx
  grind [Value.oneCell']

theorem decVote_wf {l : List UInt8} {v : VoteD} (h : decVote l = some v) : v.wf := by
  unfold decVote at h
  split at h
  · injection h with h; subst h; exact rdVote_wf _
  · cases h
theorem decVote_t (l : List UInt8) (hk : (rdNum (some l)).1 = 1) (h : (decide ((rdVote (rdNum (some l)).2).2 = some []) && okVote (rdVote (rdNum (some l)).2).1) = true) : (decVote l).map VoteD.cells = some (rdVote (rdNum (some l)).2).1.cells := by
  rw [Bool.and_eq_true] at h
  unfold decVote
  rw [if_pos ⟨hk, of_decide_eq_true h.1, h.2⟩]; rfl
theorem decVote_f (l : List UInt8) (h : (decide ((rdVote (rdNum (some l)).2).2 = some []) && okVote (rdVote (rdNum (some l)).2).1) = false) : (decVote l).map VoteD.cells = none := by
  unfold decVote
  rw [if_neg]; · rfl
  intro hc
  rw [hc.2.2, decide_eq_true hc.2.1] at h
  cases h
theorem decVote_k (l : List UInt8) (hk : (rdNum (some l)).1 ≠ 1) : (decVote l).map VoteD.cells = none := by
  unfold decVote
  rw [if_neg (fun h => hk h.1)]; rfl

end Go.Proofs.YtlahdaanfhedoaaDoor
