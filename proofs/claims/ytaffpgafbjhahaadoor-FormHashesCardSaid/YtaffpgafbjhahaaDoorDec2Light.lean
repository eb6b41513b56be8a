/- Walks: forms.DecodeLight. Walks: forms.DecodeLight, whole. -/
import Derived.Test.YtaffpgafbjhahaaDoorDecL
import Derived.Test.YtaffpgafbjhahaaDoorDecLight
namespace Go.Proofs.YtaffpgafbjhahaaDoor
open Go.RowKit
set_option maxRecDepth 100000

def LightD.own (B : Nat) (w : World) (l : LightD) (cs : List Value) : Prop :=
  ∃ cc sv nv, l.commit.own B w cc ∧ w.ownsRow B 149 2 sv l.set.length (setCells l.set) ∧ w.ownsRow B 149 2 nv l.next.length (setCells l.next) ∧ cs = l.header.cells ++ cc ++ [sv, nv]
theorem LightD.own.rep {B : Nat} {w : World} {l : LightD} {cs : List Value} (h : l.own B w cs) : l.rep w.heap.size w cs := by
  obtain ⟨cc, sv, nv, h1, h2, h3, h4⟩ := h; exact ⟨cc, sv, nv, h1.rep, rds_of_own h2, rds_of_own h3, h4⟩
theorem LightD.own.stays {B : Nat} {w w' : World} {l : LightD} {cs : List Value} (h : l.own B w cs) (hs : ∀ b, B ≤ b → b < w.heap.size → w'.heap[b]? = w.heap[b]?) : l.own B w' cs := by
  obtain ⟨cc, sv, nv, h1, h2, h3, h4⟩ := h; exact ⟨cc, sv, nv, h1.stays hs, own_stays h2 hs, own_stays h3 hs, h4⟩
theorem LightD.own.mono {B B' : Nat} {w : World} {l : LightD} {cs : List Value} (h : l.own B w cs) (hB : B' ≤ B) : l.own B' w cs := by
  obtain ⟨cc, sv, nv, h1, h2, h3, h4⟩ := h; exact ⟨cc, sv, nv, h1.mono hB, own_mono h2 hB, own_mono h3 hB, h4⟩
theorem LightD.own.one {B : Nat} {w : World} {l : LightD} {cs : List Value} (h : l.own B w cs) : ∀ v ∈ cs, v.oneCell' = true := by
  obtain ⟨cc, sv, nv, h1, h2, h3, rfl⟩ := h
  obtain ⟨a, n, k, rfl⟩ := own_shape h2
  obtain ⟨a', n', k', rfl⟩ := own_shape h3
  intro v hv
  simp only [List.mem_append, List.mem_cons, List.not_mem_nil, or_false] at hv
  rcases hv with (hv | hv) | (rfl | rfl)
  · exact HeaderD_one _ v hv
  · exact h1.one v hv
  · rfl
  · rfl
theorem CommitD.own.kept {B p : Nat} {w w' : World} {c : CommitD} {cs : List Value} (h : c.own B w cs) (hg : w.grownBy w' (some p)) (hp : p < B) : c.own B w' cs :=
  h.stays fun b hb hlt => hg.block b hlt (by simp; omega)

def lS2 (s : RS) : RS := (rdHeader (rdNum s).2).2
def lS3 (s : RS) : RS := (rdCommit (rdNum (lS2 s)).2).2
def lS4 (s : RS) : RS := (rdSet (rdNum (lS3 s)).2).2
def lS5 (s : RS) : RS := (rdSet (rdNum (lS4 s)).2).2
def rdLight (s : RS) : LightD := { header := (rdHeader (rdNum s).2).1, commit := (rdCommit (rdNum (lS2 s)).2).1, set := (rdSet (rdNum (lS3 s)).2).1, next := (rdSet (rdNum (lS4 s)).2).1 }
def lKinds (s : RS) : Bool := decide ((rdNum s).1 = 2) && (decide ((rdNum (lS2 s)).1 = 4) && (decide ((rdNum (lS3 s)).1 = 3) && decide ((rdNum (lS4 s)).1 = 3)))
theorem rdLight_wf (s : RS) : (rdLight s).wf := ⟨rdHeader_wf _, rdCommit_wf _, rdVals_wf _ _, rdVals_wf _ _⟩
def decLight (l : List UInt8) : Option LightD :=
  if (rdNum (some l)).1 = 5 ∧ lKinds (rdNum (some l)).2 = true ∧ lS5 (rdNum (some l)).2 = some [] ∧ (okHeader (rdLight (rdNum (some l)).2).header && okCommit (rdLight (rdNum (some l)).2).commit) = true then some (rdLight (rdNum (some l)).2) else none
theorem light_zero : (Tryd.prog.info? 71).map (fun i => i.zero.map (fun v => v.cells.size)) = some (some 200) := by kernel_rfl

theorem light_laid (h c : List Value) (sv nv : Value) (hh : h.length = 163) (hc : c.length = 35) (hs : sv.cells.size = 1) (hn : nv.cells.size = 1) :
    Laid (([(0, 163), (163, 35), (198, 1), (199, 1)] : List (Nat × Nat)).toArray[·]?) 0 0 [.agg h.toArray, .agg c.toArray, sv, nv] := by
  refine ⟨?_, ?_, ?_, ?_, trivial⟩ <;> simp [Value.cells] at * <;> simp [hh, hc, hs, hn]
theorem light_flat (h c : List Value) (a b : Option Addr) (n m k j : Nat) : flatCells [.agg h.toArray, .agg c.toArray, .slice a n k, .slice b m j] = h ++ c ++ [.slice a n k, .slice b m j] := by simp [flatCells, Value.cells]

set_option maxHeartbeats 1000000 in
theorem LightBody_yes (p : Nat) (st : RS) (w1 : World) (h : IsR w1 p st) (hk : (rdNum st).1 = 5) (hks : lKinds (rdNum st).2 = true) :
    Calls Tryd.prog 91 #[.pointer (some ⟨p, 0, none⟩)] w1 fun e w2 => ∃ cs, e = .returned (.agg cs.toArray) ∧ (rdLight (rdNum st).2).own w1.heap.size w2 cs ∧ cs.length = 200 ∧ IsR w2 p (lS5 (rdNum st).2) ∧ w1.grownBy w2 (some p) := by
  have H := Lib.hid h; have Hk := Lib.hid hk
  simp only [lKinds, Bool.and_eq_true, decide_eq_true_eq] at hks
  obtain ⟨k1, k2, k3, k4⟩ := hks
  have K1 := Lib.hid k1; have K2 := Lib.hid k2; have K3 := Lib.hid k3; have K4 := Lib.hid k4
  have hlt := h.lt
  clear h hk k1 k2 k3 k4
  go_enter Tryd.func91, Tryd.ntmps91
  go_wp2_with (refine wpList_alloc_as rfl 71 rfl ZLight ZLight_info ?_)
  intro W1 b1 g1 s1
  have B1 := Lib.hid b1; have G1 := Lib.hid g1
  have R := Lib.hid (H.out.grown g1)
  have hrb : w1.heap.size < W1.heap.size := b1.lt
  clear b1 g1 s1
  go_wp2_with fail
  refine (kind_yes p 5 _ _ R.out Hk.out).mono ?_
  rintro e w2 ⟨rfl, h1, h2⟩
  obtain ⟨s1, hs1⟩ : ∃ s1, (rdNum st).2 = s1 := ⟨_, rfl⟩
  rw [hs1] at h1 K1 K2 K3 K4
  replace R := Lib.hid h1; have G := Lib.hid h2; have Hs1 := Lib.hid hs1; clear h1 h2 hs1
  go_wp2_with fail
  refine (HeaderBody_yes p s1 _ R.out K1.out).mono ?_
  rintro e w3 ⟨rfl, h1, h2⟩
  replace R := Lib.hid (show IsR w3 p (lS2 s1) from h1); replace G := Lib.hid (Lib.grownBy_trans G.out h2); clear h1 h2
  go_wp2_with fail
  refine (takeCommit_yes p (lS2 s1) _ R.out K2.out).mono ?_
  rintro e w4 ⟨cc, rfl, o1, h1, h2⟩
  replace R := Lib.hid (show IsR w4 p (lS3 s1) from h1); have O1 := Lib.hid (o1.mono G.out.size); replace G := Lib.hid (Lib.grownBy_trans G.out h2); clear h1 h2 o1
  go_wp2_with fail
  refine (takeSet_yes p (lS3 s1) _ R.out K3.out).mono ?_
  rintro e w5 ⟨sv, rfl, o2, h1, h2⟩
  obtain ⟨sa, sn, sc, rfl⟩ := own_shape o2
  replace R := Lib.hid (show IsR w5 p (lS4 s1) from h1); replace O1 := Lib.hid (O1.out.kept h2 (by omega)); have O2 := Lib.hid (own_mono o2 G.out.size); replace G := Lib.hid (Lib.grownBy_trans G.out h2); clear h1 h2 o2
  go_wp2_with fail
  refine (takeSet_yes p (lS4 s1) _ R.out K4.out).mono ?_
  rintro e w6 ⟨nv, rfl, o3, h1, h2⟩
  obtain ⟨na, nn, nc, rfl⟩ := own_shape o3
  replace R := Lib.hid (show IsR w6 p (lS5 s1) from h1); replace O1 := Lib.hid (O1.out.kept h2 (by omega)); replace O2 := Lib.hid (World.ownsRow.kept O2.out h2 (own_ne O2.out (by omega))); have O3 := Lib.hid (own_mono o3 G.out.size); replace G := Lib.hid (Lib.grownBy_trans G.out h2); clear h1 h2 o3
  obtain ⟨hd, ehd⟩ : ∃ x, (rdHeader (rdNum s1).2).1 = x := ⟨_, rfl⟩
  have Hw := Lib.hid (show hd.wf from ehd ▸ rdHeader_wf _)
  rw [ehd]
  have Ehd := Lib.hid ehd; clear ehd
  have hl1 := hd.cells_length Hw.out
  have hl2 := O1.out.rep.length (rdCommit_wf _)
  have HL := Lib.hid (show (hd.cells ++ cc ++ [Value.slice sa sn sc, Value.slice na nn nc]).length = 200 by simp [hl1, hl2])
  have HLaid := Lib.hid (light_laid hd.cells cc (.slice sa sn sc) (.slice na nn nc) hl1 hl2 rfl rfl)
  have LO := Lib.hid (show (rdLight s1).own W1.heap.size w6 (hd.cells ++ cc ++ [.slice sa sn sc, .slice na nn nc]) from ⟨cc, _, _, O1.out, O2.out, O3.out, by rw [← Ehd.out]; rfl⟩)
  have HO := Lib.hid LO.out.one
  have RB := Lib.hid (B1.out.grown G.out (by simp; omega))
  clear hl1 hl2 O1 O2 O3 K1 K2 K3 K4
  obtain ⟨CS, hCS⟩ : ∃ x, hd.cells ++ cc ++ [Value.slice sa sn sc, Value.slice na nn nc] = x := ⟨_, rfl⟩
  have HF := Lib.hid ((light_flat hd.cells cc sa na sn nn sc nc).trans hCS)
  rw [hCS] at HL LO HO
  clear hCS
  go_wp2_with (first | (refine wpList_build_as rfl 71 _ rfl [.agg hd.cells.toArray, .agg cc.toArray, .slice sa sn sc, .slice na nn nc] (by kernel_rfl) _ HF.out _ [(0, 163), (163, 35), (198, 1), (199, 1)] Tryd.underlying71 (by kernel_rfl) 200 HL.out light_zero HLaid.out ?_) | (refine wpList_store_whole rfl 71 _ _ rfl w1.heap.size rfl CS ZLight 71 rfl RB.out (by rw [HL.out]; rfl) HO.out (sizeLight _ HL.out) ?_))
  intro w20 g20 s20 b20
  have B20 := Lib.hid b20; have G20 := Lib.hid g20; clear b20 g20 s20
  go_wp2_with fail
  refine bodyPost_ret (results_cell_one rfl _ _ ⟨w1.heap.size, 0, none⟩ _ rfl (run_loadVar_part _ _ _ 71 CS _ B20.out.row Tryd.underlying71 rfl (sizeLight _ HL.out))) rfl ?_
  rw [Hs1.out]
  exact ⟨CS, rfl, (LO.out.stays fun b hb hlt => G20.out.block b hlt (by simp; omega)).mono (by omega), HL.out, R.out.grownAt G20.out hlt, grown_new (Lib.grownBy_trans (grown_none G1.out) G.out) G20.out (Nat.le_refl _)⟩

set_option maxHeartbeats 1000000 in
theorem LightBody_no (p : Nat) (st : RS) (w1 : World) (h : IsR w1 p st) (hk : (rdNum st).1 ≠ 5 ∨ lKinds (rdNum st).2 = false) :
    Calls Tryd.prog 91 #[.pointer (some ⟨p, 0, none⟩)] w1 fun e w2 => e = .panicked wrongP ∧ w1.grownBy w2 (some p) := by
  have H := Lib.hid h; have Hk := Lib.hid hk
  have hlt := h.lt
  clear h hk
  go_enter Tryd.func91, Tryd.ntmps91
  go_wp2_with (refine wpList_alloc_as rfl 71 rfl ZLight ZLight_info ?_)
  intro W1 b1 g1 s1
  have G1 := Lib.hid g1
  have R := Lib.hid (H.out.grown g1)
  clear b1 g1 s1
  go_wp2_with fail
  by_cases h5 : (rdNum st).1 = 5
  case neg =>
    refine (kind_no p 5 _ _ R.out h5).mono ?_
    rintro e w2 ⟨rfl, h2⟩
    exact ⟨rfl, rfl, Lib.grownBy_trans (grown_none G1.out) h2⟩
  refine (kind_yes p 5 _ _ R.out h5).mono ?_
  rintro e w2 ⟨rfl, h1, h2⟩
  have hks : lKinds (rdNum st).2 = false := Hk.out.resolve_left (fun h => h h5)
  clear Hk h5
  obtain ⟨s1, hs1⟩ : ∃ s1, (rdNum st).2 = s1 := ⟨_, rfl⟩
  rw [hs1] at h1 hks
  replace R := Lib.hid h1; have G := Lib.hid (Lib.grownBy_trans (grown_none G1.out) h2); have Hks := Lib.hid hks; clear h1 h2 hs1 hks
  go_wp2_with fail
  by_cases k1 : (rdNum s1).1 = 2
  case neg =>
    refine (HeaderBody_no p s1 _ R.out k1).mono ?_
    rintro e w3 ⟨rfl, h2⟩
    exact ⟨rfl, rfl, Lib.grownBy_trans G.out h2⟩
  refine (HeaderBody_yes p s1 _ R.out k1).mono ?_
  rintro e w3 ⟨rfl, h1, h2⟩
  have K1 := Lib.hid k1
  replace R := Lib.hid (show IsR w3 p (lS2 s1) from h1); replace G := Lib.hid (Lib.grownBy_trans G.out h2); clear h1 h2 k1
  go_wp2_with fail
  by_cases k2 : (rdNum (lS2 s1)).1 = 4
  case neg =>
    refine (takeCommit_no p (lS2 s1) _ R.out k2).mono ?_
    rintro e w4 ⟨rfl, h2⟩
    exact ⟨rfl, rfl, Lib.grownBy_trans G.out h2⟩
  refine (takeCommit_yes p (lS2 s1) _ R.out k2).mono ?_
  rintro e w4 ⟨cc, rfl, o1, h1, h2⟩
  have K2 := Lib.hid k2
  replace R := Lib.hid (show IsR w4 p (lS3 s1) from h1); replace G := Lib.hid (Lib.grownBy_trans G.out h2); clear h1 h2 o1 k2
  go_wp2_with fail
  by_cases k3 : (rdNum (lS3 s1)).1 = 3
  case neg =>
    refine (takeSet_no p (lS3 s1) _ R.out k3).mono ?_
    rintro e w5 ⟨rfl, h2⟩
    exact ⟨rfl, rfl, Lib.grownBy_trans G.out h2⟩
  refine (takeSet_yes p (lS3 s1) _ R.out k3).mono ?_
  rintro e w5 ⟨sv, rfl, o2, h1, h2⟩
  obtain ⟨sa, sn, sc, rfl⟩ := own_shape o2
  have K3 := Lib.hid k3
  replace R := Lib.hid (show IsR w5 p (lS4 s1) from h1); replace G := Lib.hid (Lib.grownBy_trans G.out h2); clear h1 h2 o2 k3
  go_wp2_with fail
  have k4 : (rdNum (lS4 s1)).1 ≠ 3 := by
    intro k4
    have := Hks.out
    simp [lKinds, K1.out, K2.out, K3.out, k4] at this
  refine (takeSet_no p (lS4 s1) _ R.out k4).mono ?_
  rintro e w6 ⟨rfl, h2⟩
  exact ⟨rfl, rfl, Lib.grownBy_trans G.out h2⟩

set_option maxHeartbeats 400000 in
theorem LightCheck_any {B : Nat} (l : LightD) (cs : List Value) (w : World) (hl : l.wf) (ho : l.own B w cs) :
    Calls Tryd.prog 94 #[.agg cs.toArray] w (RetB (okHeader l.header && okCommit l.commit) w) := by
  obtain ⟨W, hW, hblk, hrow, hf, hb, hsz⟩ := box_as w cs 71
  obtain ⟨p1, ⟨cc, p2, p3⟩, _, _⟩ := LightD.parts ho.rep hl
  obtain ⟨h0, h1⟩ := commit_cells p2
  have hcl := p2.length hl.commit
  have HW := Lib.hid hW; have HB := Lib.hid hb; have A := Lib.hid hrow; have HS := Lib.hid (show w.heap.size < W.heap.size by omega)
  have P1 := Lib.hid p1; have P3 := Lib.hid p3; have H0 := Lib.hid h0; have H1 := Lib.hid h1; have Hcl := Lib.hid hcl; have Hl := Lib.hid hl
  clear hW hblk hrow hf hb hsz p1 p2 p3 h0 h1 hcl ho hl
  go_enter Tryd.func94, Tryd.ntmps94
  go_upto_region 1 with (fail)
  rw [HW.out]
  have R := Lib.hid (show RowAt W w.heap.size 0 l.header.cells by have := A.out.part 0 163; rwa [List.drop_zero, P1.out] at this)
  go_wp2_with (refine wpList_load_part rfl 57 _ rfl w.heap.size 0 rfl l.header.cells _ R.out Tryd.underlying57 rfl (l.header.size Hl.out.header) ?_)
  cases o1 : okHeader l.header
  · refine (checkHeader_no _ _ Hl.out.header o1).mono ?_
    rintro e w2 ⟨rfl, hb⟩
    exact ⟨rfl, RetB.no (by rw [Bool.false_and]) (HB.out.trans (hb.mono (by have := HS.out; omega)))⟩
  refine (checkHeader_yes _ _ Hl.out.header o1).mono ?_
  rintro e w2 ⟨rfl, hb⟩
  have O1 := Lib.hid o1; clear o1
  replace HB := Lib.hid (HB.out.trans (hb.mono (by have := HS.out; omega)))
  replace A := Lib.hid (A.out.below hb HS.out)
  clear hb R
  have R := Lib.hid (show RowAt w2 w.heap.size 163 cc by have := A.out.part 163 35; rwa [P3.out, Nat.zero_add] at this)
  go_wp2_with (refine wpList_load_part rfl 68 _ rfl w.heap.size 163 rfl cc _ R.out Tryd.underlying68 rfl (by rw [Hcl.out]; exact sizeCommit) ?_)
  cases o2 : okCommit l.commit
  · refine (checkCommit_f l.commit cc _ H0.out H1.out o2).mono ?_
    rintro e w3 ⟨rfl, hb⟩
    exact ⟨rfl, RetB.no (by rw [Bool.and_false]) (HB.out.trans (hb.mono HB.out.size))⟩
  refine (checkCommit_t l.commit cc _ H0.out H1.out o2).mono ?_
  rintro e w3 ⟨rfl, hb⟩
  have O2 := Lib.hid o2; clear o2
  replace HB := Lib.hid (HB.out.trans (hb.mono HB.out.size))
  clear hb R
  go_wp2_with fail
  go_end0
  exact RetB.yes (by rw [O1.out, O2.out]; rfl) HB.out

theorem enters_LightBody : ∀ args w, (callFunc 91 args).run Tryd.prog w = .ok (.enter 91 args) w := enters Tryd.func91 (by kernel_rfl) rfl
theorem enters_LightCheck : ∀ args w, (callFunc 94 args).run Tryd.prog w = .ok (.enter 94 args) w := enters Tryd.func94 (by kernel_rfl) rfl

/-- what DecodeLight answers -/
def DecodesL (r : Option LightD) (w : World) (e : Ending) (w' : World) : Prop :=
  Below w.heap.size w w' ∧ match r with | some d => ∃ cs, e = .returned (.tuple #[.agg cs.toArray, .int .i64 0]) ∧ d.own w.heap.size w' cs | none => e = .returned (.tuple #[.agg ZLight.toArray, .int .i64 61])
theorem decLight_wf {l : List UInt8} {d : LightD} (h : decLight l = some d) : d.wf := by
  unfold decLight at h
  split at h
  · injection h with h; subst h; exact rdLight_wf _
  · cases h
theorem decodeLight_any (v : Value) (l : List UInt8) (w : World) (hv : RdB w v l) (hl : l.length ≤ 100000000000) :
    Calls Tryd.prog 90 #[v, .func (.func 91) #[] #[], .func (.func 94) #[] #[]] w (DecodesL (decLight l) w) := by
  by_cases hk : (rdNum (some l)).1 = 5 ∧ lKinds (rdNum (some l)).2 = true
  · refine (decodeLight_gen 91 94 v l w (fun cs w2 => (rdLight (rdNum (some l)).2).own (w.heap.size + 2) w2 cs) (lS5 (rdNum (some l)).2) (okHeader (rdLight (rdNum (some l)).2).header && okCommit (rdLight (rdNum (some l)).2).commit) hv hl enters_LightBody enters_LightCheck
      (fun p w1 h hp => (LightBody_yes p (some l) w1 h hk.1 hk.2).mono fun e w2 ⟨cs, h1, h2, h3, h4, h5⟩ => ⟨cs, h1, h2.mono (by have := h.lt; omega), h3, h2.one, h4, h5⟩)
      (fun cs w1 hc => LightCheck_any _ cs w1 (rdLight_wf _) hc) (fun cs w1 w2 h hs _ => h.stays hs)).mono ?_
    intro e w' h
    cases hb : (decide (lS5 (rdNum (some l)).2 = some []) && (okHeader (rdLight (rdNum (some l)).2).header && okCommit (rdLight (rdNum (some l)).2).commit)) with
    | true =>
      rw [hb] at h
      rw [Bool.and_eq_true, decide_eq_true_eq] at hb
      have e2 : decLight l = some (rdLight (rdNum (some l)).2) := by unfold decLight; rw [if_pos ⟨hk.1, hk.2, hb.1, hb.2⟩]
      rw [e2]
      obtain ⟨h1, cs, h2, h3⟩ := h.t
      exact ⟨h1, cs, h2, h3.mono (by omega)⟩
    | false =>
      rw [hb] at h
      have e2 : decLight l = none := by
        unfold decLight; rw [if_neg]
        intro hc
        rw [hc.2.2.2, decide_eq_true hc.2.2.1] at hb; cases hb
      rw [e2]
      exact h.f
  · have e2 : decLight l = none := by unfold decLight; rw [if_neg (fun h => hk ⟨h.1, h.2.1⟩)]
    rw [e2]
    have hk' : (rdNum (some l)).1 ≠ 5 ∨ lKinds (rdNum (some l)).2 = false := by
      by_cases h5 : (rdNum (some l)).1 = 5
      · right; cases h : lKinds (rdNum (some l)).2 with
        | true => exact absurd ⟨h5, h⟩ hk
        | false => rfl
      · exact Or.inl h5
    refine (decodeLight_not 91 94 v l w (fun _ _ => True) hv hl enters_LightBody enters_LightCheck (fun p w1 h _ => LightBody_no p (some l) w1 h hk')).mono ?_
    intro e w' h
    exact h.f

set_option maxHeartbeats 400000 in
theorem DecodeLight_any (v : Value) (l : List UInt8) (w : World) (hv : RdB w v l) (hl : l.length ≤ 100000000000) :
    Calls Tryd.prog 30 #[v] w (DecodesL (decLight l) w) := by
  have Hv := Lib.hid hv; have Hl := Lib.hid hl
  clear hv hl
  go_enter Tryd.func30, Tryd.ntmps30
  go_wp2_with (refine wpList_alloc_as rfl 71 rfl ZLight ZLight_info ?_)
  intro W1 b1 g1 s1
  have B1 := Lib.hid b1; have G1 := Lib.hid g1
  clear b1 g1 s1
  go_wp2_with fail
  refine (decodeLight_any v l W1 (Hv.out.grown G1.out) Hl.out).mono ?_
  intro e w2 hd
  obtain ⟨r, hr⟩ : ∃ r, decLight l = r := ⟨_, rfl⟩
  have hwf : ∀ d, r = some d → d.wf := fun d h => decLight_wf (hr.trans h)
  rw [hr] at hd
  have hb : Below W1.heap.size W1 w2 := hd.1
  have bel : Below w.heap.size w w2 := by
    have q1 : Below w.heap.size w W1 := ⟨G1.out.os, G1.out.tape, G1.out.output, G1.out.size, fun k hk => G1.out.block k hk (by simp)⟩
    exact q1.trans (hb.mono G1.out.size)
  have Hrb := Lib.hid B1.out.lt
  have B2 := Lib.hid (B1.out.below hb B1.out.lt); have Bel := Lib.hid bel; clear bel hb
  have Hr := Lib.hid hr
  clear hr
  cases r with
  | none =>
    obtain rfl := hd.2
    clear hd hwf
    go_wp2_with (refine wpList_store_whole rfl 71 _ _ rfl w.heap.size rfl ZLight ZLight 71 rfl B2.out rfl ZLight_one (sizeLight _ ZLight_length) ?_)
    intro w3 g3 s3 b3
    have B3 := Lib.hid b3; have G3 := Lib.hid g3; clear b3 g3 s3
    go_wp2_with fail
    refine bodyPost_ret (results_cell_tmp rfl _ _ ⟨w.heap.size, 0, none⟩ _ _ rfl rfl (run_loadVar_part _ _ _ 71 ZLight _ B3.out.row Tryd.underlying71 rfl (sizeLight _ ZLight_length))) rfl ?_
    rw [Hr.out]
    exact ⟨Bel.out.trans ⟨G3.out.os, G3.out.tape, G3.out.output, G3.out.size, fun k hk => G3.out.block k (by have := Bel.out.size; omega) (by simp; omega)⟩, rfl⟩
  | some d =>
    obtain ⟨_, cs, rfl, ho⟩ := hd
    have Hwf := Lib.hid (hwf d rfl)
    have Hc := Lib.hid (ho.rep.length Hwf.out)
    have Ho := Lib.hid ho
    clear hwf ho
    go_wp2_with (refine wpList_store_whole rfl 71 _ _ rfl w.heap.size rfl cs ZLight 71 rfl B2.out (by rw [Hc.out]; rfl) Ho.out.one (sizeLight _ Hc.out) ?_)
    intro w3 g3 s3 b3
    have B3 := Lib.hid b3; have G3 := Lib.hid g3; clear b3 g3 s3
    go_wp2_with fail
    refine bodyPost_ret (results_cell_tmp rfl _ _ ⟨w.heap.size, 0, none⟩ _ _ rfl rfl (run_loadVar_part _ _ _ 71 cs _ B3.out.row Tryd.underlying71 rfl (sizeLight _ Hc.out))) rfl ?_
    rw [Hr.out]
    exact ⟨Bel.out.trans ⟨G3.out.os, G3.out.tape, G3.out.output, G3.out.size, fun k hk => G3.out.block k (by have := Bel.out.size; omega) (by simp; omega)⟩, cs, rfl, (Ho.out.stays fun b hb hlt => G3.out.block b hlt (by have := Hrb.out; simp; omega)).mono (Nat.le_of_lt Hrb.out)⟩

end Go.Proofs.YtaffpgafbjhahaaDoor
