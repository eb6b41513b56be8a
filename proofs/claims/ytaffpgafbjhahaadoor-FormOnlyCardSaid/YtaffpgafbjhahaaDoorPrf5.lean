/- Walks: forms.DecodeProof, whole. -/
import Derived.Test.YtaffpgafbjhahaaDoorPrf4
import Derived.Test.YtaffpgafbjhahaaDoorDecs
namespace Go.Proofs.YtaffpgafbjhahaaDoor
open Go.RowKit
set_option maxRecDepth 100000

def zProof : ProofD := { size := 0, parts := [] }
theorem zProof_wf : zProof.wf := ⟨by unfold i64R; decide, by simp [zProof]⟩
theorem zProof_own (B : Nat) (w : World) : zProof.own B w ZProof := ⟨.slice none 0 0, [], World.ownsRow_nil _ _ _ _, rfl, rfl⟩
def DecodesP (r : Option ProofD) (w : World) (e : Ending) (w' : World) : Prop :=
  Below w.heap.size w w' ∧ ∃ cs, e = .returned (.tuple #[.agg cs.toArray, .int .i64 (errOf r)]) ∧ (r.getD zProof).own w.heap.size w' cs

set_option maxHeartbeats 400000 in
theorem ProofBody_no (p : Nat) (st : RS) (w : World) (h : IsR w p st) (hk : (rdNum st).1 ≠ 7) :
    Calls Tryd.prog 80 #[.pointer (some ⟨p, 0, none⟩)] w fun e w' => e = .panicked wrongP ∧ w.grownBy w' (some p) := by
  have H := Lib.hid h; have Hk := Lib.hid hk
  clear h hk
  go_enter Tryd.func80, Tryd.ntmps80
  go_wp2_with (refine wpList_alloc_as rfl 41 rfl ZProof ZProof_info ?_)
  intro W1 b1 g1 s1
  have G1 := Lib.hid g1
  have R := Lib.hid (H.out.grown g1)
  clear b1 g1 s1
  go_wp2_with fail
  refine (kind_no p 7 _ _ R.out Hk.out).mono ?_
  rintro e w2 ⟨rfl, h2⟩
  exact ⟨rfl, rfl, Lib.grownBy_trans (grown_none G1.out) h2⟩

def decProof (l : List UInt8) : Option ProofD :=
  if (rdNum (some l)).1 = 7 ∧ (rdProof (rdNum (some l)).2).2 = some [] ∧ chkProof (rdProof (rdNum (some l)).2).1 = true then some (rdProof (rdNum (some l)).2).1 else none
theorem decProof_wf (l : List UInt8) : ((decProof l).getD zProof).wf := by
  unfold decProof
  split
  · exact rdProof_wf _
  · exact zProof_wf
theorem enters_ProofBody : ∀ args w, (callFunc 80 args).run Tryd.prog w = .ok (.enter 80 args) w := enters Tryd.func80 (by kernel_rfl) rfl
theorem enters_checkProof : ∀ args w, (callFunc 57 args).run Tryd.prog w = .ok (.enter 57 args) w := enters Tryd.func57 (by kernel_rfl) rfl
theorem decodeProof_any (v : Value) (l : List UInt8) (w : World) (hv : RdB w v l) (hl : l.length ≤ 100000000000) :
    Calls Tryd.prog 79 #[v, .func (.func 80) #[] #[], .func (.func 57) #[] #[]] w (DecodesP (decProof l) w) := by
  by_cases hk : (rdNum (some l)).1 = 7
  · refine (decodeProof_gen 80 57 v l w (fun cs w2 => (rdProof (rdNum (some l)).2).1.own (w.heap.size + 2) w2 cs) (rdProof (rdNum (some l)).2).2 (chkProof (rdProof (rdNum (some l)).2).1) hv hl enters_ProofBody enters_checkProof
      (fun p w1 h hp => (ProofBody_yes p (some l) w1 h hk).mono fun e w2 ⟨cs, h1, h2, h3, h4⟩ => ⟨cs, h1, h2.mono (by have := h.lt; omega), h2.length, h2.one, h3, h4⟩)
      (fun cs w1 hc => checkProof_any _ cs w1 hc.rep (Nat.le_refl _)) (fun cs w1 w2 h hs _ => h.stays hs)).mono ?_
    intro e w' h
    cases hb : (decide ((rdProof (rdNum (some l)).2).2 = some []) && chkProof (rdProof (rdNum (some l)).2).1) with
    | true =>
      rw [hb] at h
      rw [Bool.and_eq_true, decide_eq_true_eq] at hb
      have e2 : decProof l = some (rdProof (rdNum (some l)).2).1 := by unfold decProof; rw [if_pos ⟨hk, hb.1, hb.2⟩]
      rw [e2]
      obtain ⟨h1, cs, h2, h3⟩ := h.t
      exact ⟨h1, cs, h2, h3.mono (by omega)⟩
    | false =>
      rw [hb] at h
      have e2 : decProof l = none := by
        unfold decProof; rw [if_neg]
        intro hc
        rw [hc.2.2, decide_eq_true hc.2.1] at hb; cases hb
      rw [e2]
      exact ⟨h.f.1, _, h.f.2, zProof_own _ _⟩
  · have e2 : decProof l = none := by unfold decProof; rw [if_neg (fun h => hk h.1)]
    rw [e2]
    refine (decodeProof_not 80 57 v l w (fun _ _ => True) hv hl enters_ProofBody enters_checkProof (fun p w1 h _ => ProofBody_no p (some l) w1 h hk)).mono ?_
    intro e w' h
    exact ⟨h.f.1, _, h.f.2, zProof_own _ _⟩

set_option maxHeartbeats 400000 in
theorem DecodeProof_any (v : Value) (l : List UInt8) (w : World) (hv : RdB w v l) (hl : l.length ≤ 100000000000) :
    Calls Tryd.prog 25 #[v] w (DecodesP (decProof l) w) := by
  have Hv := Lib.hid hv; have Hl := Lib.hid hl
  clear hv hl
  go_enter Tryd.func25, Tryd.ntmps25
  go_wp2_with (refine wpList_alloc_as rfl 41 rfl ZProof ZProof_info ?_)
  intro W1 b1 g1 s1
  have B1 := Lib.hid b1; have G1 := Lib.hid g1
  clear b1 g1 s1
  go_wp2_with fail
  refine (decodeProof_any v l W1 (Hv.out.grown G1.out) Hl.out).mono ?_
  rintro e w2 ⟨hb, cs, rfl, ho⟩
  have hwf := decProof_wf l
  obtain ⟨d, hd⟩ : ∃ d, (decProof l).getD zProof = d := ⟨_, rfl⟩
  rw [hd] at ho hwf
  obtain ⟨ee, he⟩ : ∃ ee, errOf (decProof l) = ee := ⟨_, rfl⟩
  rw [he]
  have bel : Below w.heap.size w w2 := by
    have q1 : Below w.heap.size w W1 := ⟨G1.out.os, G1.out.tape, G1.out.output, G1.out.size, fun k hk => G1.out.block k hk (by simp)⟩
    exact q1.trans (hb.mono G1.out.size)
  have Hrb := Lib.hid B1.out.lt
  have B2 := Lib.hid (B1.out.below hb B1.out.lt); have Bel := Lib.hid bel
  have Hc := Lib.hid ho.length
  have Ho := Lib.hid ho; have Hd := Lib.hid hd; have He := Lib.hid he
  clear bel hb ho hd he hwf
  go_wp2_with (refine wpList_store_whole rfl 41 _ _ rfl w.heap.size rfl cs ZProof 41 rfl B2.out (by rw [Hc.out]; rfl) Ho.out.one (by rw [Hc.out]; exact sizeProof) ?_)
  intro w3 g3 s3 b3
  have B3 := Lib.hid b3; have G3 := Lib.hid g3; clear b3 g3 s3
  go_wp2_with fail
  refine bodyPost_ret (results_cell_tmp rfl _ _ ⟨w.heap.size, 0, none⟩ _ _ rfl rfl (run_loadVar_part _ _ _ 41 cs _ B3.out.row Tryd.underlying41 rfl (by rw [Hc.out]; exact sizeProof))) rfl ?_
  unfold DecodesP
  rw [Hd.out, He.out]
  exact ⟨Bel.out.trans ⟨G3.out.os, G3.out.tape, G3.out.output, G3.out.size, fun k hk => G3.out.block k (by have := Bel.out.size; omega) (by simp; omega)⟩, cs, rfl, (Ho.out.stays fun b hb hlt => G3.out.block b hlt (by have := Hrb.out; simp; omega)).mono (Nat.le_of_lt Hrb.out)⟩

end Go.Proofs.YtaffpgafbjhahaaDoor
