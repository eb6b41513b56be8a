/- Walks: forms.DecodeLight. -/
import Derived.Test.YtaffpgafbjhahaaDoorDecC
import Derived.Test.YtaffpgafbjhahaaDoorDecLight
namespace Go.Proofs.YtaffpgafbjhahaaDoor
open Go.RowKit
set_option maxRecDepth 100000

def LightD.own (B : Nat) (w : World) (l : LightD) (cs : List Value) : Prop :=
  ∃ cc sv nv, l.commit.own B w cc ∧ w.ownsRow B 149 2 sv l.set.length (setCells l.set) ∧ w.ownsRow B 149 2 nv l.next.length (setCells l.next) ∧ cs = l.header.cells ++ cc ++ [sv, nv]
theorem LightD.own.rep {B : Nat} {w : World} {l : LightD} {cs : List Value} (h : l.own B w cs) : l.rep w.heap.size w cs := by
  obtain ⟨cc, sv, nv, h1, h2, h3, h4⟩ := h; exact ⟨cc, sv, nv, h1.rep, rds_of_own h2, rds_of_own h3, h4⟩
theorem LightD.own.stays {B : Nat} {w w' : World} {l : LightD} {cs : List Value} (h : l.own B w cs) (hs : ∀ b, B ≤ b → b < w.heap.size → w'.heap[b]? = w.heap[b]?) : l.own B w' cs := by
  obtain ⟨cc, sv, nv, h1, h2, h3, h4⟩ := h; exact ⟨cc, sv, nv, h1.stays hs, own_stays h2 hs, own_stays h3 hs, h4⟩
theorem LightD.own.mono {B B' : Nat} {w : World} {l : LightD} {cs : List Value} (h : l.own B w cs) (hB : B' ≤ B) : l.own B' w cs := by
  obtain ⟨cc, sv, nv, h1, h2, h3, h4⟩ := h; exact ⟨cc, sv, nv, h1.mono hB, own_mono h2 hB, own_mono h3 hB, h4⟩
theorem LightD.own.one {B : Nat} {w : World} {l : LightD} {cs : List Value} (h : l.own B w cs) : ∀ v ∈ cs, v.oneCell' = true := by
  obtain ⟨cc, sv, nv, h1, h2, h3, rfl⟩ := h
  obtain ⟨a, n, k, rfl⟩ := own_shape h2
  obtain ⟨a', n', k', rfl⟩ := own_shape h3
  intro v hv
  simp only [List.mem_append, List.mem_cons, List.not_mem_nil, or_false] at hv
  rcases hv with (hv | hv) | (rfl | rfl)
  · exact HeaderD_one _ v hv
  · exact h1.one v hv
  · rfl
  · rfl
theorem CommitD.own.kept {B p : Nat} {w w' : World} {c : CommitD} {cs : List Value} (h : c.own B w cs) (hg : w.grownBy w' (some p)) (hp : p < B) : c.own B w' cs :=
  h.stays fun b hb hlt => hg.block b hlt (by simp; omega)

def lS2 (s : RS) : RS := (rdHeader (rdNum s).2).2
def lS3 (s : RS) : RS := (rdCommit (rdNum (lS2 s)).2).2
def lS4 (s : RS) : RS := (rdSet (rdNum (lS3 s)).2).2
def lS5 (s : RS) : RS := (rdSet (rdNum (lS4 s)).2).2
def rdLight (s : RS) : LightD := { header := (rdHeader (rdNum s).2).1, commit := (rdCommit (rdNum (lS2 s)).2).1, set := (rdSet (rdNum (lS3 s)).2).1, next := (rdSet (rdNum (lS4 s)).2).1 }
def lKinds (s : RS) : Bool := decide ((rdNum s).1 = 2) && (decide ((rdNum (lS2 s)).1 = 4) && (decide ((rdNum (lS3 s)).1 = 3) && decide ((rdNum (lS4 s)).1 = 3)))
theorem rdLight_wf (s : RS) : (rdLight s).wf := ⟨rdHeader_wf _, rdCommit_wf _, rdVals_wf _ _, rdVals_wf _ _⟩
def decLight (l : List UInt8) : Option LightD :=
  if (rdNum (some l)).1 = 5 ∧ lKinds (rdNum (some l)).2 = true ∧ lS5 (rdNum (some l)).2 = some [] ∧ (okHeader (rdLight (rdNum (some l)).2).header && okCommit (rdLight (rdNum (some l)).2).commit) = true then some (rdLight (rdNum (some l)).2) else none
theorem light_zero : (Tryd.prog.info? 71).map (fun i => i.zero.map (fun v => v.cells.size)) = some (some 200) := by kernel_rfl

theorem light_laid (h c : List Value) (sv nv : Value) (hh : h.length = 163) (hc : c.length = 35) (hs : sv.cells.size = 1) (hn : nv.cells.size = 1) :
    Laid (([(0, 163), (163, 35), (198, 1), (199, 1)] : List (Nat × Nat)).toArray[·]?) 0 0 [.agg h.toArray, .agg c.toArray, sv, nv] := by
  refine ⟨?_, ?_, ?_, ?_, trivial⟩ <;> simp [Value.cells] at * <;> simp [hh, hc, hs, hn]
theorem light_flat (h c : List Value) (a b : Option Addr) (n m k j : Nat) : flatCells [.agg h.toArray, .agg c.toArray, .slice a n k, .slice b m j] = h ++ c ++ [.slice a n k, .slice b m j] := by simp [flatCells, Value.cells]

set_option maxHeartbeats 1000000 in
theorem LightBody_yes (p : Nat) (st : RS) (w1 : World) (h : IsR w1 p st) (hk : (rdNum st).1 = 5) (hks : lKinds (rdNum st).2 = true) :
    Calls Tryd.prog 91 #[.pointer (some ⟨p, 0, none⟩)] w1 fun e w2 => ∃ cs, e = .returned (.agg cs.toArray) ∧ (rdLight (rdNum st).2).own w1.heap.size w2 cs ∧ cs.length = 200 ∧ IsR w2 p (lS5 (rdNum st).2) ∧ w1.grownBy w2 (some p) := by
  have H := Lib.hid h; have Hk := Lib.hid hk
  simp only [lKinds, Bool.and_eq_true, decide_eq_true_eq] at hks
  obtain ⟨k1, k2, k3, k4⟩ := hks
  have K1 := Lib.hid k1; have K2 := Lib.hid k2; have K3 := Lib.hid k3; have K4 := Lib.hid k4
  have hlt := h.lt
  clear h hk k1 k2 k3 k4
  go_enter Tryd.func91, Tryd.ntmps91
  go_wp2_with (refine wpList_alloc_as rfl 71 rfl ZLight ZLight_info ?_)
  intro W1 b1 g1 s1
  have B1 := Lib.hid b1; have G1 := Lib.hid g1
  have R := Lib.hid (H.out.grown g1)
  have hrb : w1.heap.size < W1.heap.size := b1.lt
  clear b1 g1 s1
  go_wp2_with fail
  refine (kind_yes p 5 _ _ R.out Hk.out).mono ?_
  rintro e w2 ⟨rfl, h1, h2⟩
  obtain ⟨s1, hs1⟩ : ∃ s1, (rdNum st).2 = s1 := ⟨_, rfl⟩
  rw [hs1] at h1 K1 K2 K3 K4
  replace R := Lib.hid h1; have G := Lib.hid h2; have Hs1 := Lib.hid hs1; clear h1 h2 hs1
  go_wp2_with fail
  refine (HeaderBody_yes p s1 _ R.out K1.out).mono ?_
  rintro e w3 ⟨rfl, h1, h2⟩
  replace R := Lib.hid (show IsR w3 p (lS2 s1) from h1); replace G := Lib.hid (Lib.grownBy_trans G.out h2); clear h1 h2
  go_wp2_with fail
  refine (takeCommit_yes p (lS2 s1) _ R.out K2.out).mono ?_
  rintro e w4 ⟨cc, rfl, o1, h1, h2⟩
  replace R := Lib.hid (show IsR w4 p (lS3 s1) from h1); have O1 := Lib.hid (o1.mono G.out.size); replace G := Lib.hid (Lib.grownBy_trans G.out h2); clear h1 h2 o1
  go_wp2_with fail
  refine (takeSet_yes p (lS3 s1) _ R.out K3.out).mono ?_
  rintro e w5 ⟨sv, rfl, o2, h1, h2⟩
  obtain ⟨sa, sn, sc, rfl⟩ := own_shape o2
  replace R := Lib.hid (show IsR w5 p (lS4 s1) from h1); replace O1 := Lib.hid (O1.out.kept h2 (by omega)); have O2 := Lib.hid (own_mono o2 G.out.size); replace G := Lib.hid (Lib.grownBy_trans G.out h2); clear h1 h2 o2
  go_wp2_with fail
  refine (takeSet_yes p (lS4 s1) _ R.out K4.out).mono ?_
  rintro e w6 ⟨nv, rfl, o3, h1, h2⟩
  obtain ⟨na, nn, nc, rfl⟩ := own_shape o3
  replace R := Lib.hid (show IsR w6 p (lS5 s1) from h1); replace O1 := Lib.hid (O1.out.kept h2 (by omega)); replace O2 := Lib.hid (World.ownsRow.kept O2.out h2 (own_ne O2.out (by omega))); have O3 := Lib.hid (own_mono o3 G.out.size); replace G := Lib.hid (Lib.grownBy_trans G.out h2); clear h1 h2 o3
  obtain ⟨hd, ehd⟩ : ∃ x, (rdHeader (rdNum s1).2).1 = x := ⟨_, rfl⟩
  have Hw := Lib.hid (show hd.wf from ehd ▸ rdHeader_wf _)
  rw [ehd]
  have Ehd := Lib.hid ehd; clear ehd
  have hl1 := hd.cells_length Hw.out
  have hl2 := O1.out.rep.length (rdCommit_wf _)
  have HL := Lib.hid (show (hd.cells ++ cc ++ [Value.slice sa sn sc, Value.slice na nn nc]).length = 200 by simp [hl1, hl2])
  have HLaid := Lib.hid (light_laid hd.cells cc (.slice sa sn sc) (.slice na nn nc) hl1 hl2 rfl rfl)
  have LO := Lib.hid (show (rdLight s1).own W1.heap.size w6 (hd.cells ++ cc ++ [.slice sa sn sc, .slice na nn nc]) from ⟨cc, _, _, O1.out, O2.out, O3.out, by rw [← Ehd.out]; rfl⟩)
  have HO := Lib.hid LO.out.one
  have RB := Lib.hid (B1.out.grown G.out (by simp; omega))
  clear hl1 hl2 O1 O2 O3 K1 K2 K3 K4
  obtain ⟨CS, hCS⟩ : ∃ x, hd.cells ++ cc ++ [Value.slice sa sn sc, Value.slice na nn nc] = x := ⟨_, rfl⟩
  have HF := Lib.hid ((light_flat hd.cells cc sa na sn nn sc nc).trans hCS)
  rw [hCS] at HL LO HO
  clear hCS
  go_wp2_with (first | (refine wpList_build_as rfl 71 _ rfl [.agg hd.cells.toArray, .agg cc.toArray, .slice sa sn sc, .slice na nn nc] (by kernel_rfl) _ HF.out _ [(0, 163), (163, 35), (198, 1), (199, 1)] Tryd.underlying71 (by kernel_rfl) 200 HL.out light_zero HLaid.out ?_) | (refine wpList_store_whole rfl 71 _ _ rfl w1.heap.size rfl CS ZLight 71 rfl RB.out (by rw [HL.out]; rfl) HO.out (sizeLight _ HL.out) ?_))
  intro w20 g20 s20 b20
  have B20 := Lib.hid b20; have G20 := Lib.hid g20; clear b20 g20 s20
  go_wp2_with fail
  refine bodyPost_ret (results_cell_one rfl _ _ ⟨w1.heap.size, 0, none⟩ _ rfl (run_loadVar_part _ _ _ 71 CS _ B20.out.row Tryd.underlying71 rfl (sizeLight _ HL.out))) rfl ?_
  rw [Hs1.out]
  exact ⟨CS, rfl, (LO.out.stays fun b hb hlt => G20.out.block b hlt (by simp; omega)).mono (by omega), HL.out, R.out.grownAt G20.out hlt, grown_new (Lib.grownBy_trans (grown_none G1.out) G.out) G20.out (Nat.le_refl _)⟩

end Go.Proofs.YtaffpgafbjhahaaDoor
