/- Walks: forms.decode at api.Header. Walks: nuncio/forms.takeHeader, nuncio/forms.DecodeHeader. -/
import Derived.Test.YtfnginmoiecgnaaDoorDecode
import Derived.Deep.Cut
import Derived.Deep.CutRange
import Derived.Test.YtfnginmoiecgnaaDoorHeader
import Derived.Test.YtfnginmoiecgnaaDoorDecVote
namespace Go.Proofs.YtfnginmoiecgnaaDoor
open Go.RowKit
set_option maxRecDepth 100000

/-- the zero value's cells -/
def ZHeader : List Value := [.string ⟨#[]⟩, .int .i64 0, .int .i64 0] ++ Lib.byteCells (List.replicate 32 0) ++ Lib.byteCells (List.replicate 32 0) ++ Lib.byteCells (List.replicate 32 0) ++ Lib.byteCells (List.replicate 32 0) ++ Lib.byteCells (List.replicate 32 0)
theorem ZHeader_length : ZHeader.length = 163 := by rfl
theorem ZHeader_one : ∀ v ∈ ZHeader, v.oneCell' = true := fun v hv => List.all_eq_true.1 (show ZHeader.all (·.oneCell') = true by kernel_rfl) v hv

def headerS0 (s : RS) : RS := s
def headerS1 (s : RS) : RS := (rdText (headerS0 s)).2
def headerS2 (s : RS) : RS := (rdNum (headerS1 s)).2
def headerS3 (s : RS) : RS := (rdNum (headerS2 s)).2
def headerS4 (s : RS) : RS := (rdHash (headerS3 s)).2
def headerS5 (s : RS) : RS := (rdHash (headerS4 s)).2
def headerS6 (s : RS) : RS := (rdHash (headerS5 s)).2
def headerS7 (s : RS) : RS := (rdHash (headerS6 s)).2
def headerS8 (s : RS) : RS := (rdHash (headerS7 s)).2
/-- what stands next, read as a header; behind its kind -/
def rdHeader (s : RS) : HeaderD × RS := ({ chain := ⟨(rdText (headerS0 s)).1.toArray⟩, height := (rdNum (headerS1 s)).1, time := (rdNum (headerS2 s)).1, last := (rdHash (headerS3 s)).1, set := (rdHash (headerS4 s)).1, next := (rdHash (headerS5 s)).1, data := (rdHash (headerS6 s)).1, app := (rdHash (headerS7 s)).1 }, headerS8 s)
def decHeader (l : List UInt8) : Option HeaderD :=
  if (rdNum (some l)).1 = 2 ∧ (rdHeader (rdNum (some l)).2).2 = some [] ∧ okHeader (rdHeader (rdNum (some l)).2).1 = true then some (rdHeader (rdNum (some l)).2).1 else none
theorem rdHeader_wf (s : RS) : (rdHeader s).1.wf := ⟨str_ok (rdText_len _), rdNum_R _, rdNum_R _, rdHash_len _, rdHash_len _, rdHash_len _, rdHash_len _, rdHash_len _⟩
def rdHeader_vs (s0 : RS) : List Value := [.string ⟨(rdText (headerS0 s0)).1.toArray⟩, .int .i64 (rdNum (headerS1 s0)).1, .int .i64 (rdNum (headerS2 s0)).1, .agg (Lib.byteCells (rdHash (headerS3 s0)).1).toArray, .agg (Lib.byteCells (rdHash (headerS4 s0)).1).toArray, .agg (Lib.byteCells (rdHash (headerS5 s0)).1).toArray, .agg (Lib.byteCells (rdHash (headerS6 s0)).1).toArray, .agg (Lib.byteCells (rdHash (headerS7 s0)).1).toArray]
theorem rdHeader_flat (s0 : RS) : flatCells (rdHeader_vs s0) = (rdHeader s0).1.cells := by simp [flatCells, rdHeader_vs, rdHeader, HeaderD.cells, Value.cells, List.append_assoc]
theorem rdHeader_laid (s0 : RS) : Laid (([(0, 1), (1, 1), (2, 1), (3, 32), (35, 32), (67, 32), (99, 32), (131, 32)] : List (Nat × Nat)).toArray[·]?) 0 0 (rdHeader_vs s0) := by
  refine ⟨?_, ?_, ?_, ?_, ?_, ?_, ?_, ?_, trivial⟩ <;> simp [Value.cells, Lib.byteCells_length, rdHash_len]
theorem HeaderD_one (v : HeaderD) : ∀ x ∈ v.cells, x.oneCell' = true := by
  have hb := fun (l : List UInt8) x (h : x ∈ Lib.byteCells l) => oneCell_bytes l x h
  intro x hx
  simp only [HeaderD.cells, List.mem_append, List.mem_cons, List.not_mem_nil, or_false] at hx
  grind [Value.oneCell']

theorem decHeader_wf {l : List UInt8} {v : HeaderD} (h : decHeader l = some v) : v.wf := by
  unfold decHeader at h
  split at h
  · injection h with h; subst h; exact rdHeader_wf _
  · cases h
theorem decHeader_t (l : List UInt8) (hk : (rdNum (some l)).1 = 2) (h : (decide ((rdHeader (rdNum (some l)).2).2 = some []) && okHeader (rdHeader (rdNum (some l)).2).1) = true) : (decHeader l).map HeaderD.cells = some (rdHeader (rdNum (some l)).2).1.cells := by
  rw [Bool.and_eq_true] at h
  unfold decHeader
  rw [if_pos ⟨hk, of_decide_eq_true h.1, h.2⟩]; rfl
theorem decHeader_f (l : List UInt8) (h : (decide ((rdHeader (rdNum (some l)).2).2 = some []) && okHeader (rdHeader (rdNum (some l)).2).1) = false) : (decHeader l).map HeaderD.cells = none := by
  unfold decHeader
  rw [if_neg]; · rfl
  intro hc
  rw [hc.2.2, decide_eq_true hc.2.1] at h
  cases h
theorem decHeader_k (l : List UInt8) (hk : (rdNum (some l)).1 ≠ 2) : (decHeader l).map HeaderD.cells = none := by
  unfold decHeader
  rw [if_neg (fun h => hk h.1)]; rfl

end Go.Proofs.YtfnginmoiecgnaaDoor
