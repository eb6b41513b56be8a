/- Walks: nuncio/forms.DecodeVote$1, nuncio/forms.DecodeVote. -/
import Derived.Test.YtaffpgafbjhahaaDoorBuild
import Derived.Test.YtaffpgafbjhahaaDoorReadH
import Derived.Test.YtaffpgafbjhahaaDoorDecVote
import Derived.Test.YtaffpgafbjhahaaDoorPacket2
import Derived.Test.YtaffpgafbjhahaaDoorVote
namespace Go.Proofs.YtaffpgafbjhahaaDoor
open Go.RowKit
set_option maxRecDepth 100000

/-- a signature, read -/
def rdSig (s : RS) : (Nat × Nat) × RS := (((rdWord s).1, (rdWord (rdWord s).2).1), (rdWord (rdWord s).2).2)
def sigCells (s : Nat × Nat) : List Value := [.int .u64 s.1, .int .u64 s.2]
theorem rdWord_R (s : RS) : u64R (rdWord s).1 := by
  unfold rdWord u64R
  cases s with
  | none => simp
  | some l =>
    dsimp only
    split
    · rename_i h
      have := ofBe_lt (l.take 8)
      rw [List.length_take, Nat.min_eq_left h] at this
      refine ⟨by omega, by omega⟩
    · simp
theorem rdSig_R (s : RS) : u64R (rdSig s).1.1 ∧ u64R (rdSig s).1.2 := ⟨rdWord_R _, rdWord_R _⟩
set_option maxHeartbeats 400000 in
theorem RSig (p : Nat) (st : RS) (w : World) (h : IsR w p st) :
    Calls Tryd.prog 67 #[.pointer (some ⟨p, 0, none⟩)] w (Reads (.agg (sigCells (rdSig st).1).toArray) (rdSig st).2 p w) := by
  have H := Lib.hid h
  clear h
  go_enter Tryd.func67, Tryd.ntmps67
  go_wp2_with (refine wpList_alloc_as rfl 27 rfl [.int .u64 0, .int .u64 0] (by kernel_rfl) ?_)
  intro W1 b1 g1 s1
  have B1 := Lib.hid b1; have G1 := Lib.hid g1
  have hlt := H.out.lt
  have hne : w.heap.size ≠ p := by omega
  have R := Lib.hid (H.out.grown g1)
  clear b1 g1 s1
  go_wp2_with fail
  refine (RWord p _ _ R.out).mono ?_
  rintro e w2 ⟨rfl, h1, h2⟩
  replace R := Lib.hid h1; have G := Lib.hid h2; clear h1 h2
  go_wp2_with fail
  refine (RWord p _ _ R.out).mono ?_
  rintro e w3 ⟨rfl, h1, h2⟩
  replace R := Lib.hid h1; replace G := Lib.hid (Lib.grownBy_trans G.out h2); clear h1 h2
  go_wp2_with (refine wpList_store_whole rfl 27 _ _ rfl w.heap.size rfl (sigCells (rdSig st).1) _ 27 rfl (B1.out.grown G.out (by simp; exact hne)) rfl (by simp [sigCells, Value.oneCell']) (by kernel_rfl) ?_)
  intro w20 g20 s20 b20
  have B20 := Lib.hid b20; have G20 := Lib.hid g20; clear b20 g20 s20
  go_wp2_with fail
  refine bodyPost_ret (results_cell_one rfl _ _ ⟨w.heap.size, 0, none⟩ _ rfl (run_loadVar_part _ _ _ 27 (sigCells (rdSig st).1) _ B20.out.row Tryd.underlying27 rfl (by kernel_rfl))) rfl ?_
  exact ⟨rfl, R.out.grownAt G20.out hlt, grown_new (Lib.grownBy_trans (grown_none G1.out) G.out) G20.out (Nat.le_refl _)⟩

def voteS0 (s : RS) : RS := s
def voteS1 (s : RS) : RS := (rdText (voteS0 s)).2
def voteS2 (s : RS) : RS := (rdNum (voteS1 s)).2
def voteS3 (s : RS) : RS := (rdNum (voteS2 s)).2
def voteS4 (s : RS) : RS := (rdNum (voteS3 s)).2
def voteS5 (s : RS) : RS := (rdHash (voteS4 s)).2
def voteS6 (s : RS) : RS := (rdWord (voteS5 s)).2
def voteS7 (s : RS) : RS := (rdSig (voteS6 s)).2
/-- what stands next, read as a vote; behind its kind -/
def rdVote (s : RS) : VoteD × RS := ({ chain := ⟨(rdText (voteS0 s)).1.toArray⟩, height := (rdNum (voteS1 s)).1, round := (rdNum (voteS2 s)).1, type := (rdNum (voteS3 s)).1, block := (rdHash (voteS4 s)).1, key := (rdWord (voteS5 s)).1, r := (rdSig (voteS6 s)).1.1, s := (rdSig (voteS6 s)).1.2 }, voteS7 s)
def decVote (l : List UInt8) : Option VoteD :=
  if (rdNum (some l)).1 = 1 ∧ (rdVote (rdNum (some l)).2).2 = some [] ∧ okVote (rdVote (rdNum (some l)).2).1 = true then some (rdVote (rdNum (some l)).2).1 else none
theorem rdVote_wf (s : RS) : (rdVote s).1.wf := ⟨str_ok (rdText_len _), rdNum_R _, rdNum_R _, rdNum_R _, rdHash_len _, rdWord_R _, (rdSig_R _).1, (rdSig_R _).2⟩
def rdVote_vs (s0 : RS) : List Value := [.string ⟨(rdText (voteS0 s0)).1.toArray⟩, .int .i64 (rdNum (voteS1 s0)).1, .int .i64 (rdNum (voteS2 s0)).1, .int .i64 (rdNum (voteS3 s0)).1, .agg (Lib.byteCells (rdHash (voteS4 s0)).1).toArray, .int .u64 (rdWord (voteS5 s0)).1, .agg (sigCells (rdSig (voteS6 s0)).1).toArray]
theorem rdVote_flat (s0 : RS) : flatCells (rdVote_vs s0) = (rdVote s0).1.cells := by simp [flatCells, rdVote_vs, rdVote, VoteD.cells, Value.cells, sigCells, List.append_assoc]
theorem rdVote_laid (s0 : RS) : Laid (([(0, 1), (1, 1), (2, 1), (3, 1), (4, 32), (36, 1), (37, 2)] : List (Nat × Nat)).toArray[·]?) 0 0 (rdVote_vs s0) := by
  refine ⟨?_, ?_, ?_, ?_, ?_, ?_, ?_, trivial⟩ <;> simp [Value.cells, Lib.byteCells_length, rdHash_len, sigCells]
theorem VoteD_one (v : VoteD) : ∀ x ∈ v.cells, x.oneCell' = true := by
  have hb := fun (l : List UInt8) x (h : x ∈ Lib.byteCells l) => oneCell_bytes l x h
  intro x hx
  simp only [VoteD.cells, List.mem_append, List.mem_cons, List.not_mem_nil, or_false] at hx
  grind [Value.oneCell']

set_option maxHeartbeats 1000000 in
theorem VoteBody_yes (p : Nat) (st : RS) (w1 : World) (h : IsR w1 p st) (hk : (rdNum st).1 = 1) :
    Calls Tryd.prog 61 #[.pointer (some ⟨p, 0, none⟩)] w1 (Reads (.agg (rdVote (rdNum st).2).1.cells.toArray) (rdVote (rdNum st).2).2 p w1) := by
  have H := Lib.hid h; have Hk := Lib.hid hk
  clear h hk
  go_enter Tryd.func61, Tryd.ntmps61
  go_wp2_with (refine wpList_alloc_as rfl 29 rfl ZVote ZVote_info ?_)
  intro W1 b1 g1 s1
  have B1 := Lib.hid b1; have G1 := Lib.hid g1
  have hlt := H.out.lt
  have hne : w1.heap.size ≠ p := by omega
  have H1 := Lib.hid (H.out.grown g1)
  clear b1 g1 s1
  go_wp2_with fail
  refine (kind_yes p 1 _ _ H1.out Hk.out).mono ?_
  rintro e w2 ⟨rfl, h1, h2⟩
  have R := Lib.hid h1; have G := Lib.hid h2; clear h1 h2
  obtain ⟨s0, hs0⟩ : ∃ s0, (rdNum st).2 = s0 := ⟨_, rfl⟩
  rw [hs0] at R
  have Hs0 := Lib.hid hs0; clear hs0
  go_wp2_with fail
  refine (RText p (voteS0 s0) _ R.out).mono ?_
  rintro e w3 ⟨rfl, h1, h2⟩
  replace R := Lib.hid (show IsR w3 p (voteS1 s0) from h1); replace G := Lib.hid (Lib.grownBy_trans G.out h2); clear h1 h2
  go_wp2_with fail
  refine (RNumber p (voteS1 s0) _ R.out).mono ?_
  rintro e w4 ⟨rfl, h1, h2⟩
  replace R := Lib.hid (show IsR w4 p (voteS2 s0) from h1); replace G := Lib.hid (Lib.grownBy_trans G.out h2); clear h1 h2
  go_wp2_with fail
  refine (RNumber p (voteS2 s0) _ R.out).mono ?_
  rintro e w5 ⟨rfl, h1, h2⟩
  replace R := Lib.hid (show IsR w5 p (voteS3 s0) from h1); replace G := Lib.hid (Lib.grownBy_trans G.out h2); clear h1 h2
  go_wp2_with fail
  refine (RNumber p (voteS3 s0) _ R.out).mono ?_
  rintro e w6 ⟨rfl, h1, h2⟩
  replace R := Lib.hid (show IsR w6 p (voteS4 s0) from h1); replace G := Lib.hid (Lib.grownBy_trans G.out h2); clear h1 h2
  go_wp2_with fail
  refine (RHash p (voteS4 s0) _ R.out).mono ?_
  rintro e w7 ⟨rfl, h1, h2⟩
  replace R := Lib.hid (show IsR w7 p (voteS5 s0) from h1); replace G := Lib.hid (Lib.grownBy_trans G.out h2); clear h1 h2
  go_wp2_with fail
  refine (RWord p (voteS5 s0) _ R.out).mono ?_
  rintro e w8 ⟨rfl, h1, h2⟩
  replace R := Lib.hid (show IsR w8 p (voteS6 s0) from h1); replace G := Lib.hid (Lib.grownBy_trans G.out h2); clear h1 h2
  go_wp2_with fail
  refine (RSig p (voteS6 s0) _ R.out).mono ?_
  rintro e w9 ⟨rfl, h1, h2⟩
  replace R := Lib.hid (show IsR w9 p (voteS7 s0) from h1); replace G := Lib.hid (Lib.grownBy_trans G.out h2); clear h1 h2
  have Hc := Lib.hid ((rdVote s0).1.cells_length (rdVote_wf s0))
  go_wp2_with (first | (refine wpList_build_as rfl 29 _ rfl (rdVote_vs s0) (by kernel_rfl) _ (rdVote_flat s0) _ _ Tryd.underlying29 (by kernel_rfl) 39 Hc.out (by kernel_rfl) (rdVote_laid s0) ?_) | (refine wpList_store_whole rfl 29 _ _ rfl w1.heap.size rfl (rdVote s0).1.cells ZVote 29 rfl (B1.out.grown G.out (by simp; exact hne)) (by rw [Hc.out]; rfl) (VoteD_one _) (sizeVote _ Hc.out) ?_))
  intro w20 g20 s20 b20
  have B20 := Lib.hid b20; have G20 := Lib.hid g20; clear b20 g20 s20
  go_wp2_with fail
  refine bodyPost_ret (results_cell_one rfl _ _ ⟨w1.heap.size, 0, none⟩ _ rfl (run_loadVar_part _ _ _ 29 (rdVote s0).1.cells _ B20.out.row Tryd.underlying29 rfl (sizeVote _ Hc.out))) rfl ?_
  obtain rfl := Hs0.out
  exact ⟨rfl, R.out.grownAt G20.out hlt, grown_new (Lib.grownBy_trans (grown_none G1.out) G.out) G20.out (Nat.le_refl _)⟩

set_option maxHeartbeats 400000 in
theorem VoteBody_no (p : Nat) (st : RS) (w1 : World) (h : IsR w1 p st) (hk : (rdNum st).1 ≠ 1) :
    Calls Tryd.prog 61 #[.pointer (some ⟨p, 0, none⟩)] w1 fun e w2 => e = .panicked wrongP ∧ w1.grownBy w2 (some p) := by
  have H := Lib.hid h; have Hk := Lib.hid hk
  clear h hk
  go_enter Tryd.func61, Tryd.ntmps61
  go_wp2_with (refine wpList_alloc_as rfl 29 rfl ZVote ZVote_info ?_)
  intro W1 b1 g1 s1
  have G1 := Lib.hid g1
  have H1 := Lib.hid (H.out.grown g1)
  clear b1 g1 s1
  go_wp2_with fail
  refine (kind_no p 1 _ _ H1.out Hk.out).mono ?_
  rintro e w2 ⟨rfl, h2⟩
  exact ⟨rfl, rfl, Lib.grownBy_trans (grown_none G1.out) h2⟩

theorem enters_VoteBody : ∀ args w, (callFunc 61 args).run Tryd.prog w = .ok (.enter 61 args) w := enters Tryd.func61 (by kernel_rfl) rfl
theorem enters_checkVote : ∀ args w, (callFunc 68 args).run Tryd.prog w = .ok (.enter 68 args) w := enters Tryd.func68 (by kernel_rfl) rfl

theorem decVote_wf {l : List UInt8} {v : VoteD} (h : decVote l = some v) : v.wf := by
  unfold decVote at h
  split at h
  · injection h with h; subst h; exact rdVote_wf _
  · cases h
theorem decVote_t (l : List UInt8) (hk : (rdNum (some l)).1 = 1) (h : (decide ((rdVote (rdNum (some l)).2).2 = some []) && okVote (rdVote (rdNum (some l)).2).1) = true) : (decVote l).map VoteD.cells = some (rdVote (rdNum (some l)).2).1.cells := by
  rw [Bool.and_eq_true] at h
  unfold decVote
  rw [if_pos ⟨hk, of_decide_eq_true h.1, h.2⟩]; rfl
theorem decVote_f (l : List UInt8) (h : (decide ((rdVote (rdNum (some l)).2).2 = some []) && okVote (rdVote (rdNum (some l)).2).1) = false) : (decVote l).map VoteD.cells = none := by
  unfold decVote
  rw [if_neg]; · rfl
  intro hc
  rw [hc.2.2, decide_eq_true hc.2.1] at h
  cases h
theorem decVote_k (l : List UInt8) (hk : (rdNum (some l)).1 ≠ 1) : (decVote l).map VoteD.cells = none := by
  unfold decVote
  rw [if_neg (fun h => hk h.1)]; rfl

theorem decodeVote_any (v : Value) (l : List UInt8) (w : World) (hv : RdB w v l) (hl : l.length ≤ 100000000000) :
    Calls Tryd.prog 60 #[v, .func (.func 61) #[] #[], .func (.func 68) #[] #[]] w (Decodes ((decVote l).map VoteD.cells) ZVote w) := by
  by_cases hk : (rdNum (some l)).1 = 1
  · refine (decodeVote_gen 61 68 v l w (fun cs _ => cs = (rdVote (rdNum (some l)).2).1.cells) (rdVote (rdNum (some l)).2).2 (okVote (rdVote (rdNum (some l)).2).1) hv hl enters_VoteBody enters_checkVote (fun p w1 h _ => (VoteBody_yes p (some l) w1 h hk).mono fun e w2 hr => ⟨_, hr.1, rfl, (rdVote (rdNum (some l)).2).1.cells_length (rdVote_wf _), VoteD_one _, hr.2.1, hr.2.2⟩)
      (fun cs w1 hc => by subst hc; exact checkVote_any _ w1 (rdVote_wf _)) (fun cs w1 w2 h _ _ => h)).mono ?_
    intro e w' h
    exact Decodes.of_gen h (fun _ _ h => h) (decVote_t l hk) (decVote_f l)
  · refine (decodeVote_not 61 68 v l w (fun _ _ => True) hv hl enters_VoteBody enters_checkVote (fun p w1 h _ => VoteBody_no p (some l) w1 h hk)).mono ?_
    intro e w' h
    exact Decodes.no (decVote_k l hk) h.f.1 h.f.2

set_option maxHeartbeats 400000 in
theorem DecodeVote_any (v : Value) (l : List UInt8) (w : World) (hv : RdB w v l) (hl : l.length ≤ 100000000000) :
    Calls Tryd.prog 19 #[v] w (Decodes ((decVote l).map VoteD.cells) ZVote w) := by
  have Hv := Lib.hid hv; have Hl := Lib.hid hl
  clear hv hl
  go_enter Tryd.func19, Tryd.ntmps19
  go_wp2_with (refine wpList_alloc_as rfl 29 rfl ZVote ZVote_info ?_)
  intro W1 b1 g1 s1
  have B1 := Lib.hid b1; have G1 := Lib.hid g1; have S1 := Lib.hid s1
  clear b1 g1 s1
  go_wp2_with fail
  refine (decodeVote_any v l W1 (Hv.out.grown G1.out) Hl.out).mono ?_
  intro e w2 hd
  obtain ⟨r, hr⟩ : ∃ r, (decVote l).map VoteD.cells = r := ⟨_, rfl⟩
  have hn4 : ∀ cs, r = some cs → cs.length = 39 ∧ ∀ v ∈ cs, v.oneCell' = true := by
    intro cs hc
    rw [hc] at hr
    cases hd : decVote l with
    | none => rw [hd] at hr; cases hr
    | some pk => rw [hd] at hr; injection hr with hr; subst hr; exact ⟨pk.cells_length (decVote_wf hd), VoteD_one _⟩
  rw [hr] at hd
  have hb : Below W1.heap.size W1 w2 := hd.1
  have bel : Below w.heap.size w w2 := by
    have q1 : Below w.heap.size w W1 := ⟨G1.out.os, G1.out.tape, G1.out.output, G1.out.size, fun k hk => G1.out.block k hk (by simp)⟩
    exact q1.trans (hb.mono G1.out.size)
  have b2 := B1.out.below hb B1.out.lt
  have B2 := Lib.hid b2; have Bel := Lib.hid bel; clear b2 bel hb
  have Hr := Lib.hid hr
  clear hr
  cases r with
  | none =>
    obtain rfl := (hd.n rfl).2
    clear hd hn4
    go_wp2_with (refine wpList_store_whole rfl 29 _ _ rfl w.heap.size rfl ZVote ZVote 29 rfl B2.out rfl ZVote_one (sizeVote _ ZVote_length) ?_)
    intro w3 g3 s3 b3
    have B3 := Lib.hid b3; have G3 := Lib.hid g3; clear b3 g3 s3
    go_wp2_with fail
    refine bodyPost_ret (results_cell_tmp rfl _ _ ⟨w.heap.size, 0, none⟩ _ _ rfl rfl (run_loadVar_part _ _ _ 29 ZVote _ B3.out.row Tryd.underlying29 rfl (sizeVote _ ZVote_length))) rfl ?_
    exact Decodes.no Hr.out (Bel.out.trans ⟨G3.out.os, G3.out.tape, G3.out.output, G3.out.size, fun k hk => G3.out.block k (by have := Bel.out.size; omega) (by simp; omega)⟩) rfl
  | some cs =>
    obtain rfl := (hd.y rfl).2
    have Hc := Lib.hid (hn4 cs rfl)
    clear hd hn4
    go_wp2_with (refine wpList_store_whole rfl 29 _ _ rfl w.heap.size rfl cs ZVote 29 rfl B2.out (by rw [Hc.out.1]; rfl) Hc.out.2 (sizeVote _ Hc.out.1) ?_)
    intro w3 g3 s3 b3
    have B3 := Lib.hid b3; have G3 := Lib.hid g3; clear b3 g3 s3
    go_wp2_with fail
    refine bodyPost_ret (results_cell_tmp rfl _ _ ⟨w.heap.size, 0, none⟩ _ _ rfl rfl (run_loadVar_part _ _ _ 29 cs _ B3.out.row Tryd.underlying29 rfl (sizeVote _ Hc.out.1))) rfl ?_
    exact Decodes.yes Hr.out (Bel.out.trans ⟨G3.out.os, G3.out.tape, G3.out.output, G3.out.size, fun k hk => G3.out.block k (by have := Bel.out.size; omega) (by simp; omega)⟩) rfl


end Go.Proofs.YtaffpgafbjhahaaDoor
