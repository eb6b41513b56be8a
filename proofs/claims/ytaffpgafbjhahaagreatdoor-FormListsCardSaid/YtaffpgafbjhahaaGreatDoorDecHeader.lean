/- Walks: forms.decode at api.Header. Walks: nuncio/forms.takeHeader, nuncio/forms.DecodeHeader. -/
import Derived.Test.YtaffpgafbjhahaaGreatDoorDecode
import Derived.Deep.Cut
import Derived.Deep.CutRange
import Derived.Test.YtaffpgafbjhahaaGreatDoorHeader
import Derived.Test.YtaffpgafbjhahaaGreatDoorDecVote
namespace Go.Proofs.YtaffpgafbjhahaaGreatDoor
open Go.RowKit
set_option maxRecDepth 100000

/-- the zero value's cells -/
def ZHeader : List Value := [.string ⟨#[]⟩, .int .i64 0, .int .i64 0] ++ Lib.byteCells (List.replicate 32 0) ++ Lib.byteCells (List.replicate 32 0) ++ Lib.byteCells (List.replicate 32 0) ++ Lib.byteCells (List.replicate 32 0) ++ Lib.byteCells (List.replicate 32 0)
theorem ZHeader_info : (Tryz.prog.info? 36).map (fun i => i.zero.map (fun v => v.cells)) = some (some ZHeader.toArray) := by kernel_rfl
theorem ZHeader_length : ZHeader.length = 163 := by rfl
theorem sizeHeader (cs : List Value) (h : cs.length = 163) : (Tryz.prog.info? 36).map (·.size) = some cs.length := by rw [h]; kernel_rfl
theorem ZHeader_one : ∀ v ∈ ZHeader, v.oneCell' = true := fun v hv => List.all_eq_true.1 (show ZHeader.all (·.oneCell') = true by kernel_rfl) v hv

def headerS0 (s : RS) : RS := s
def headerS1 (s : RS) : RS := (rdText (headerS0 s)).2
def headerS2 (s : RS) : RS := (rdNum (headerS1 s)).2
def headerS3 (s : RS) : RS := (rdNum (headerS2 s)).2
def headerS4 (s : RS) : RS := (rdHash (headerS3 s)).2
def headerS5 (s : RS) : RS := (rdHash (headerS4 s)).2
def headerS6 (s : RS) : RS := (rdHash (headerS5 s)).2
def headerS7 (s : RS) : RS := (rdHash (headerS6 s)).2
def headerS8 (s : RS) : RS := (rdHash (headerS7 s)).2
/-- what stands next, read as a header; behind its kind -/
def rdHeader (s : RS) : HeaderD × RS := ({ chain := ⟨(rdText (headerS0 s)).1.toArray⟩, height := (rdNum (headerS1 s)).1, time := (rdNum (headerS2 s)).1, last := (rdHash (headerS3 s)).1, set := (rdHash (headerS4 s)).1, next := (rdHash (headerS5 s)).1, data := (rdHash (headerS6 s)).1, app := (rdHash (headerS7 s)).1 }, headerS8 s)
def decHeader (l : List UInt8) : Option HeaderD :=
  if (rdNum (some l)).1 = 2 ∧ (rdHeader (rdNum (some l)).2).2 = some [] ∧ okHeader (rdHeader (rdNum (some l)).2).1 = true then some (rdHeader (rdNum (some l)).2).1 else none
theorem rdHeader_wf (s : RS) : (rdHeader s).1.wf := ⟨str_ok (rdText_len _), rdNum_R _, rdNum_R _, rdHash_len _, rdHash_len _, rdHash_len _, rdHash_len _, rdHash_len _⟩
def rdHeader_vs (s0 : RS) : List Value := [.string ⟨(rdText (headerS0 s0)).1.toArray⟩, .int .i64 (rdNum (headerS1 s0)).1, .int .i64 (rdNum (headerS2 s0)).1, .agg (Lib.byteCells (rdHash (headerS3 s0)).1).toArray, .agg (Lib.byteCells (rdHash (headerS4 s0)).1).toArray, .agg (Lib.byteCells (rdHash (headerS5 s0)).1).toArray, .agg (Lib.byteCells (rdHash (headerS6 s0)).1).toArray, .agg (Lib.byteCells (rdHash (headerS7 s0)).1).toArray]
theorem rdHeader_flat (s0 : RS) : flatCells (rdHeader_vs s0) = (rdHeader s0).1.cells := by simp [flatCells, rdHeader_vs, rdHeader, HeaderD.cells, Value.cells, sigCells, List.append_assoc]
theorem rdHeader_laid (s0 : RS) : Laid (([(0, 1), (1, 1), (2, 1), (3, 32), (35, 32), (67, 32), (99, 32), (131, 32)] : List (Nat × Nat)).toArray[·]?) 0 0 (rdHeader_vs s0) := by
  refine ⟨?_, ?_, ?_, ?_, ?_, ?_, ?_, ?_, trivial⟩ <;> simp [Value.cells, Lib.byteCells_length, rdHash_len, sigCells]
theorem HeaderD_one (v : HeaderD) : ∀ x ∈ v.cells, x.oneCell' = true := by
  have hb := fun (l : List UInt8) x (h : x ∈ Lib.byteCells l) => oneCell_bytes l x h
  intro x hx
  simp only [HeaderD.cells, List.mem_append, List.mem_cons, List.not_mem_nil, or_false] at hx
  grind [Value.oneCell']

set_option maxHeartbeats 1000000 in
theorem HeaderBody_yes (p : Nat) (st : RS) (w1 : World) (h : IsR w1 p st) (hk : (rdNum st).1 = 2) :
    Calls Tryz.prog 30 #[.pointer (some ⟨p, 0, none⟩)] w1 (Reads (.agg (rdHeader (rdNum st).2).1.cells.toArray) (rdHeader (rdNum st).2).2 p w1) := by
  have H := Lib.hid h; have Hk := Lib.hid hk
  clear h hk
  go_enter Tryz.func30, Tryz.ntmps30
  go_wp2_with (refine wpList_alloc_as rfl 36 rfl ZHeader ZHeader_info ?_)
  intro W1 b1 g1 s1
  have B1 := Lib.hid b1; have G1 := Lib.hid g1
  have hlt := H.out.lt
  have hne : w1.heap.size ≠ p := by omega
  have H1 := Lib.hid (H.out.grown g1)
  clear b1 g1 s1
  go_wp2_with fail
  refine (kind_yes p 2 _ _ H1.out Hk.out).mono ?_
  rintro e w2 ⟨rfl, h1, h2⟩
  have R := Lib.hid h1; have G := Lib.hid h2; clear h1 h2
  obtain ⟨s0, hs0⟩ : ∃ s0, (rdNum st).2 = s0 := ⟨_, rfl⟩
  rw [hs0] at R
  have Hs0 := Lib.hid hs0; clear hs0
  go_wp2_with fail
  refine (RText p (headerS0 s0) _ R.out).mono ?_
  rintro e w3 ⟨rfl, h1, h2⟩
  replace R := Lib.hid (show IsR w3 p (headerS1 s0) from h1); replace G := Lib.hid (Lib.grownBy_trans G.out h2); clear h1 h2
  go_wp2_with fail
  refine (RNumber p (headerS1 s0) _ R.out).mono ?_
  rintro e w4 ⟨rfl, h1, h2⟩
  replace R := Lib.hid (show IsR w4 p (headerS2 s0) from h1); replace G := Lib.hid (Lib.grownBy_trans G.out h2); clear h1 h2
  go_wp2_with fail
  refine (RNumber p (headerS2 s0) _ R.out).mono ?_
  rintro e w5 ⟨rfl, h1, h2⟩
  replace R := Lib.hid (show IsR w5 p (headerS3 s0) from h1); replace G := Lib.hid (Lib.grownBy_trans G.out h2); clear h1 h2
  go_wp2_with fail
  refine (RHash p (headerS3 s0) _ R.out).mono ?_
  rintro e w6 ⟨rfl, h1, h2⟩
  replace R := Lib.hid (show IsR w6 p (headerS4 s0) from h1); replace G := Lib.hid (Lib.grownBy_trans G.out h2); clear h1 h2
  go_wp2_with fail
  refine (RHash p (headerS4 s0) _ R.out).mono ?_
  rintro e w7 ⟨rfl, h1, h2⟩
  replace R := Lib.hid (show IsR w7 p (headerS5 s0) from h1); replace G := Lib.hid (Lib.grownBy_trans G.out h2); clear h1 h2
  go_wp2_with fail
  refine (RHash p (headerS5 s0) _ R.out).mono ?_
  rintro e w8 ⟨rfl, h1, h2⟩
  replace R := Lib.hid (show IsR w8 p (headerS6 s0) from h1); replace G := Lib.hid (Lib.grownBy_trans G.out h2); clear h1 h2
  go_wp2_with fail
  refine (RHash p (headerS6 s0) _ R.out).mono ?_
  rintro e w9 ⟨rfl, h1, h2⟩
  replace R := Lib.hid (show IsR w9 p (headerS7 s0) from h1); replace G := Lib.hid (Lib.grownBy_trans G.out h2); clear h1 h2
  go_wp2_with fail
  refine (RHash p (headerS7 s0) _ R.out).mono ?_
  rintro e w10 ⟨rfl, h1, h2⟩
  replace R := Lib.hid (show IsR w10 p (headerS8 s0) from h1); replace G := Lib.hid (Lib.grownBy_trans G.out h2); clear h1 h2
  have Hc := Lib.hid ((rdHeader s0).1.cells_length (rdHeader_wf s0))
  go_wp2_with (first | (refine wpList_build_as rfl 36 _ rfl (rdHeader_vs s0) (by kernel_rfl) _ (rdHeader_flat s0) _ _ Tryz.underlying36 (by kernel_rfl) 163 Hc.out (by kernel_rfl) (rdHeader_laid s0) ?_) | (refine wpList_store_whole rfl 36 _ _ rfl w1.heap.size rfl (rdHeader s0).1.cells ZHeader 36 rfl (B1.out.grown G.out (by simp; exact hne)) (by rw [Hc.out]; rfl) (HeaderD_one _) (sizeHeader _ Hc.out) ?_))
  intro w20 g20 s20 b20
  have B20 := Lib.hid b20; have G20 := Lib.hid g20; clear b20 g20 s20
  go_wp2_with fail
  refine bodyPost_ret (results_cell_one rfl _ _ ⟨w1.heap.size, 0, none⟩ _ rfl (run_loadVar_part _ _ _ 36 (rdHeader s0).1.cells _ B20.out.row Tryz.underlying36 rfl (sizeHeader _ Hc.out))) rfl ?_
  obtain rfl := Hs0.out
  exact ⟨rfl, R.out.grownAt G20.out hlt, grown_new (Lib.grownBy_trans (grown_none G1.out) G.out) G20.out (Nat.le_refl _)⟩

set_option maxHeartbeats 400000 in
theorem HeaderBody_no (p : Nat) (st : RS) (w1 : World) (h : IsR w1 p st) (hk : (rdNum st).1 ≠ 2) :
    Calls Tryz.prog 30 #[.pointer (some ⟨p, 0, none⟩)] w1 fun e w2 => e = .panicked wrongP ∧ w1.grownBy w2 (some p) := by
  have H := Lib.hid h; have Hk := Lib.hid hk
  clear h hk
  go_enter Tryz.func30, Tryz.ntmps30
  go_wp2_with (refine wpList_alloc_as rfl 36 rfl ZHeader ZHeader_info ?_)
  intro W1 b1 g1 s1
  have G1 := Lib.hid g1
  have H1 := Lib.hid (H.out.grown g1)
  clear b1 g1 s1
  go_wp2_with fail
  refine (kind_no p 2 _ _ H1.out Hk.out).mono ?_
  rintro e w2 ⟨rfl, h2⟩
  exact ⟨rfl, rfl, Lib.grownBy_trans (grown_none G1.out) h2⟩

theorem enters_HeaderBody : ∀ args w, (callFunc 30 args).run Tryz.prog w = .ok (.enter 30 args) w := enters Tryz.func30 (by kernel_rfl) rfl
theorem enters_checkHeader : ∀ args w, (callFunc 32 args).run Tryz.prog w = .ok (.enter 32 args) w := enters Tryz.func32 (by kernel_rfl) rfl

theorem decHeader_wf {l : List UInt8} {v : HeaderD} (h : decHeader l = some v) : v.wf := by
  unfold decHeader at h
  split at h
  · injection h with h; subst h; exact rdHeader_wf _
  · cases h
theorem decHeader_t (l : List UInt8) (hk : (rdNum (some l)).1 = 2) (h : (decide ((rdHeader (rdNum (some l)).2).2 = some []) && okHeader (rdHeader (rdNum (some l)).2).1) = true) : (decHeader l).map HeaderD.cells = some (rdHeader (rdNum (some l)).2).1.cells := by
  rw [Bool.and_eq_true] at h
  unfold decHeader
  rw [if_pos ⟨hk, of_decide_eq_true h.1, h.2⟩]; rfl
theorem decHeader_f (l : List UInt8) (h : (decide ((rdHeader (rdNum (some l)).2).2 = some []) && okHeader (rdHeader (rdNum (some l)).2).1) = false) : (decHeader l).map HeaderD.cells = none := by
  unfold decHeader
  rw [if_neg]; · rfl
  intro hc
  rw [hc.2.2, decide_eq_true hc.2.1] at h
  cases h
theorem decHeader_k (l : List UInt8) (hk : (rdNum (some l)).1 ≠ 2) : (decHeader l).map HeaderD.cells = none := by
  unfold decHeader
  rw [if_neg (fun h => hk h.1)]; rfl

end Go.Proofs.YtaffpgafbjhahaaGreatDoor
