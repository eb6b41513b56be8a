/- Walks: forms.checkHeader. Walks: forms.decode at api.Header. Walks: nuncio/forms.takeHeader, nuncio/forms.DecodeHeader. -/
import Derived.Test.YtcbkehnlgpcelaaGreatDoorForms
import Derived.Deep.Cut
import Derived.Deep.CutRange
import Derived.Test.YtcbkehnlgpcelaaGreatDoorDecode
import Derived.Test.YtcbkehnlgpcelaaGreatDoorDecVote
namespace Go.Proofs.YtcbkehnlgpcelaaGreatDoor
open Go.RowKit
set_option maxRecDepth 100000

/-- a header, as data -/
structure HeaderD where
  chain : ByteArray
  height : Int
  time : Int
  last : List UInt8
  set : List UInt8
  next : List UInt8
  data : List UInt8
  app : List UInt8
structure HeaderD.wf (v : HeaderD) : Prop where
  chain : v.chain.size ≤ maxLen
  height : i64R v.height
  time : i64R v.time
  last : v.last.length = 32
  set : v.set.length = 32
  next : v.next.length = 32
  data : v.data.length = 32
  app : v.app.length = 32
def HeaderD.cells (v : HeaderD) : List Value := [.string v.chain, .int .i64 v.height, .int .i64 v.time] ++ Lib.byteCells v.last ++ Lib.byteCells v.set ++ Lib.byteCells v.next ++ Lib.byteCells v.data ++ Lib.byteCells v.app
def HeaderD.val (v : HeaderD) : Value := .agg v.cells.toArray
theorem HeaderD.cells_length (v : HeaderD) (h : v.wf) : v.cells.length = 163 := by simp [HeaderD.cells, Lib.byteCells_length, h.last, h.set, h.next, h.data, h.app]
theorem HeaderD.size (v : HeaderD) (h : v.wf) : (Tryz.prog.info? 78).map (·.size) = some v.cells.length := by
  rw [v.cells_length h]; kernel_rfl
/-- what is read of its row -/
structure HeaderD.At (w : World) (m o : Nat) (v : HeaderD) : Prop where
  row : RowAt w m o v.cells
  chain : w.cell? ⟨m, o + 0, none⟩ = some (.string v.chain)
  height : w.cell? ⟨m, o + 1, none⟩ = some (.int .i64 v.height)
  time : w.cell? ⟨m, o + 2, none⟩ = some (.int .i64 v.time)
  last : RowAt w m (o + 3) (Lib.byteCells v.last)
  set : RowAt w m (o + 35) (Lib.byteCells v.set)
  next : RowAt w m (o + 67) (Lib.byteCells v.next)
  data : RowAt w m (o + 99) (Lib.byteCells v.data)
  app : RowAt w m (o + 131) (Lib.byteCells v.app)
theorem HeaderD.At.of_row {w : World} {m o : Nat} {v : HeaderD} (hv : v.wf) (h : RowAt w m o v.cells) : HeaderD.At w m o v := by
  refine ⟨h, ?_, ?_, ?_, ?_, ?_, ?_, ?_, ?_⟩
  · exact h 0 _ (by simp [HeaderD.cells, Lib.byteCells_length, hv.last, hv.set, hv.next, hv.data, hv.app])
  · exact h 1 _ (by simp [HeaderD.cells, Lib.byteCells_length, hv.last, hv.set, hv.next, hv.data, hv.app])
  · exact h 2 _ (by simp [HeaderD.cells, Lib.byteCells_length, hv.last, hv.set, hv.next, hv.data, hv.app])
  · have e : (v.cells.drop 3).take 32 = Lib.byteCells v.last := by simp [HeaderD.cells, List.drop_append, Lib.byteCells_length, hv.last, hv.set, hv.next, hv.data]
    exact e ▸ h.part 3 32
  · have e : (v.cells.drop 35).take 32 = Lib.byteCells v.set := by simp [HeaderD.cells, Lib.byteCells_length, hv.last, hv.set]
    exact e ▸ h.part 35 32
  · have e : (v.cells.drop 67).take 32 = Lib.byteCells v.next := by simp [HeaderD.cells, List.drop_append, Lib.byteCells_length, List.drop_eq_nil_of_le, hv.last, hv.set, hv.next]
    exact e ▸ h.part 67 32
  · have e : (v.cells.drop 99).take 32 = Lib.byteCells v.data := by simp [HeaderD.cells, List.drop_append, Lib.byteCells_length, List.drop_eq_nil_of_le, hv.last, hv.set, hv.next, hv.data]
    exact e ▸ h.part 99 32
  · have e : (v.cells.drop 131).take 32 = Lib.byteCells v.app := by simp [HeaderD.cells, List.drop_append, Lib.byteCells_length, byteCells_take32, List.drop_eq_nil_of_le, hv.last, hv.set, hv.next, hv.data, hv.app]
    exact e ▸ h.part 131 32
theorem HeaderD.At.below {B : Nat} {w w' : World} {m o : Nat} {v : HeaderD} (h : HeaderD.At w m o v) (hv : v.wf) (hb : Below B w w') (hm : m < B) : HeaderD.At w' m o v := HeaderD.At.of_row hv (h.row.below hb hm)
def okHeader (v : HeaderD) : Bool := nameL v.chain.data.toList && (inR v.height 1 1099511627776 && (inR v.time 0 1099511627776))
def encHeader (v : HeaderD) : List UInt8 := be64 2 ++ textL v.chain ++ be64 v.height ++ be64 v.time ++ v.last ++ v.set ++ v.next ++ v.data ++ v.app
theorem okHeader_len {v : HeaderD} (h : okHeader v = true) : v.chain.size ≤ 16 := by
  unfold okHeader at h; simp only [Bool.and_eq_true] at h
  have := (nameL_len h.1).2
  simpa using this

set_option maxHeartbeats 1000000 in
theorem checkHeader_any (v : HeaderD) (w : World) (hv : v.wf) : Calls Tryz.prog 90 #[v.val] w (RetB (okHeader v) w) := by
  unfold HeaderD.val
  have A := HeaderD.At.of_row hv (RowAt_box w v.cells 78)
  have c0 := A.chain; rw [Nat.zero_add] at c0; have c1 := A.height; rw [Nat.zero_add] at c1; have c2 := A.time; rw [Nat.zero_add] at c2
  have HA := Lib.hid A; have Hv := Lib.hid hv
  clear A hv
  go_enter Tryz.func90, Tryz.ntmps90
  have Hb := Lib.hid (below_box w (.cells v.cells.toArray 78))
  have HS := Lib.hid (show w.heap.size + 1 ≤ (w.alloc (.cells v.cells.toArray 78)).heap.size by simp)
  go_wp2_with fail
  cases h0 : nameL v.chain.data.toList
  · refine (name_no _ _ h0).mono ?_
    rintro e w1 ⟨rfl, hb⟩
    exact ⟨rfl, RetB.no (by simp only [okHeader, h0, Bool.false_and]) (Hb.out.trans (hb.mono (by have := HS.out; have := Hb.out.size; omega)))⟩
  refine (name_yes _ _ h0).mono ?_
  rintro e w1 ⟨rfl, hb⟩
  have A1 := HA.out.below Hv.out hb (by have := HS.out; omega)
  clear c0 c1 c2
  have c0 := A1.chain; rw [Nat.zero_add] at c0; have c1 := A1.height; rw [Nat.zero_add] at c1; have c2 := A1.time; rw [Nat.zero_add] at c2
  replace Hb := Lib.hid (Hb.out.trans (hb.mono (by have := HS.out; have := Hb.out.size; omega)))
  replace HS := Lib.hid (Nat.le_trans HS.out hb.size)
  replace HA := Lib.hid A1
  have H0 := Lib.hid h0; clear h0 A1 hb
  go_wp2_with fail
  cases h1 : inR v.height 1 1099511627776
  · refine (within_f _ _ _ _ h1).mono ?_
    rintro e w' ⟨rfl, rfl⟩
    exact ⟨rfl, RetB.no (by simp only [okHeader, h1, Bool.and_false, Bool.false_and]) Hb.out⟩
  refine (within_t _ _ _ _ h1).mono ?_
  rintro e w' ⟨rfl, rfl⟩
  have H1 := Lib.hid h1; clear h1
  go_wp2_with fail
  cases h2 : inR v.time 0 1099511627776
  · refine (within_f _ _ _ _ h2).mono ?_
    rintro e w' ⟨rfl, rfl⟩
    exact ⟨rfl, RetB.no (by simp only [okHeader, h2, Bool.and_false]) Hb.out⟩
  refine (within_t _ _ _ _ h2).mono ?_
  rintro e w' ⟨rfl, rfl⟩
  have H2 := Lib.hid h2; clear h2
  go_wp2_with fail
  go_end0
  exact RetB.yes (by simp only [okHeader, H0.out, H1.out, H2.out, Bool.and_self]) Hb.out

theorem checkHeader_yes (v : HeaderD) (w : World) (hv : v.wf) (h : okHeader v = true) : Calls Tryz.prog 90 #[v.val] w fun e w' => e = .returned (.tuple #[]) ∧ Below w.heap.size w w' :=
  (checkHeader_any v w hv).mono fun e w' hp => by unfold RetB at hp; rw [h] at hp; exact hp
theorem checkHeader_no (v : HeaderD) (w : World) (hv : v.wf) (h : okHeader v = false) : Calls Tryz.prog 90 #[v.val] w fun e w' => e = .panicked wrongP ∧ Below w.heap.size w w' :=
  (checkHeader_any v w hv).mono fun e w' hp => by unfold RetB at hp; rw [h] at hp; exact hp

/-- the zero value's cells -/
def ZHeader : List Value := [.string ⟨#[]⟩, .int .i64 0, .int .i64 0] ++ Lib.byteCells (List.replicate 32 0) ++ Lib.byteCells (List.replicate 32 0) ++ Lib.byteCells (List.replicate 32 0) ++ Lib.byteCells (List.replicate 32 0) ++ Lib.byteCells (List.replicate 32 0)
theorem ZHeader_info : (Tryz.prog.info? 78).map (fun i => i.zero.map (fun v => v.cells)) = some (some ZHeader.toArray) := by kernel_rfl
theorem ZHeader_length : ZHeader.length = 163 := by rfl
theorem sizeHeader (cs : List Value) (h : cs.length = 163) : (Tryz.prog.info? 78).map (·.size) = some cs.length := by rw [h]; kernel_rfl
theorem ZHeader_one : ∀ v ∈ ZHeader, v.oneCell' = true := fun v hv => List.all_eq_true.1 (show ZHeader.all (·.oneCell') = true by kernel_rfl) v hv

def headerS0 (s : RS) : RS := s
def headerS1 (s : RS) : RS := (rdText (headerS0 s)).2
def headerS2 (s : RS) : RS := (rdNum (headerS1 s)).2
def headerS3 (s : RS) : RS := (rdNum (headerS2 s)).2
def headerS4 (s : RS) : RS := (rdHash (headerS3 s)).2
def headerS5 (s : RS) : RS := (rdHash (headerS4 s)).2
def headerS6 (s : RS) : RS := (rdHash (headerS5 s)).2
def headerS7 (s : RS) : RS := (rdHash (headerS6 s)).2
def headerS8 (s : RS) : RS := (rdHash (headerS7 s)).2
/-- what stands next, read as a header; behind its kind -/
def rdHeader (s : RS) : HeaderD × RS := ({ chain := ⟨(rdText (headerS0 s)).1.toArray⟩, height := (rdNum (headerS1 s)).1, time := (rdNum (headerS2 s)).1, last := (rdHash (headerS3 s)).1, set := (rdHash (headerS4 s)).1, next := (rdHash (headerS5 s)).1, data := (rdHash (headerS6 s)).1, app := (rdHash (headerS7 s)).1 }, headerS8 s)
def decHeader (l : List UInt8) : Option HeaderD :=
  if (rdNum (some l)).1 = 2 ∧ (rdHeader (rdNum (some l)).2).2 = some [] ∧ okHeader (rdHeader (rdNum (some l)).2).1 = true then some (rdHeader (rdNum (some l)).2).1 else none
theorem rdHeader_wf (s : RS) : (rdHeader s).1.wf := ⟨str_ok (rdText_len _), rdNum_R _, rdNum_R _, rdHash_len _, rdHash_len _, rdHash_len _, rdHash_len _, rdHash_len _⟩
def rdHeader_vs (s0 : RS) : List Value := [.string ⟨(rdText (headerS0 s0)).1.toArray⟩, .int .i64 (rdNum (headerS1 s0)).1, .int .i64 (rdNum (headerS2 s0)).1, .agg (Lib.byteCells (rdHash (headerS3 s0)).1).toArray, .agg (Lib.byteCells (rdHash (headerS4 s0)).1).toArray, .agg (Lib.byteCells (rdHash (headerS5 s0)).1).toArray, .agg (Lib.byteCells (rdHash (headerS6 s0)).1).toArray, .agg (Lib.byteCells (rdHash (headerS7 s0)).1).toArray]
theorem rdHeader_flat (s0 : RS) : flatCells (rdHeader_vs s0) = (rdHeader s0).1.cells := by simp [flatCells, rdHeader_vs, rdHeader, HeaderD.cells, Value.cells, List.append_assoc]
theorem rdHeader_laid (s0 : RS) : Laid (([(0, 1), (1, 1), (2, 1), (3, 32), (35, 32), (67, 32), (99, 32), (131, 32)] : List (Nat × Nat)).toArray[·]?) 0 0 (rdHeader_vs s0) := by
  refine ⟨?_, ?_, ?_, ?_, ?_, ?_, ?_, ?_, trivial⟩ <;> simp [Value.cells, Lib.byteCells_length, rdHash_len]
theorem HeaderD_one (v : HeaderD) : ∀ x ∈ v.cells, x.oneCell' = true := by
  have hb := fun (l : List UInt8) x (h : x ∈ Lib.byteCells l) => oneCell_bytes l x h
  intro x hx
  simp only [HeaderD.cells, List.mem_append, List.mem_cons, List.not_mem_nil, or_false] at hx
  grind [Value.oneCell']

theorem enters_checkHeader : ∀ args w, (callFunc 90 args).run Tryz.prog w = .ok (.enter 90 args) w := enters Tryz.func90 (by kernel_rfl) rfl

theorem decHeader_wf {l : List UInt8} {v : HeaderD} (h : decHeader l = some v) : v.wf := by
  unfold decHeader at h
  split at h
  · injection h with h; subst h; exact rdHeader_wf _
  · cases h
theorem decHeader_t (l : List UInt8) (hk : (rdNum (some l)).1 = 2) (h : (decide ((rdHeader (rdNum (some l)).2).2 = some []) && okHeader (rdHeader (rdNum (some l)).2).1) = true) : (decHeader l).map HeaderD.cells = some (rdHeader (rdNum (some l)).2).1.cells := by
  rw [Bool.and_eq_true] at h
  unfold decHeader
  rw [if_pos ⟨hk, of_decide_eq_true h.1, h.2⟩]; rfl
theorem decHeader_f (l : List UInt8) (h : (decide ((rdHeader (rdNum (some l)).2).2 = some []) && okHeader (rdHeader (rdNum (some l)).2).1) = false) : (decHeader l).map HeaderD.cells = none := by
  unfold decHeader
  rw [if_neg]; · rfl
  intro hc
  rw [hc.2.2, decide_eq_true hc.2.1] at h
  cases h
theorem decHeader_k (l : List UInt8) (hk : (rdNum (some l)).1 ≠ 2) : (decHeader l).map HeaderD.cells = none := by
  unfold decHeader
  rw [if_neg (fun h => hk h.1)]; rfl

end Go.Proofs.YtcbkehnlgpcelaaGreatDoor
