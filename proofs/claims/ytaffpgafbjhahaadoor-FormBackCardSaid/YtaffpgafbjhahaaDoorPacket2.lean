/- Walks: forms.kind, DecodePacket. -/
import Derived.Test.YtaffpgafbjhahaaDoorDecPacket
import Derived.Test.YtaffpgafbjhahaaDoorPacket
namespace Go.Proofs.YtaffpgafbjhahaaDoor
open Go.RowKit
set_option maxRecDepth 100000

set_option maxHeartbeats 400000 in
theorem kind_yes (p : Nat) (k : Int) (st : RS) (w : World) (h : IsR w p st) (hk : (rdNum st).1 = k) :
    Calls Tryd.prog 62 #[.pointer (some ⟨p, 0, none⟩), .int .i64 k] w fun e w' => e = .returned (.tuple #[]) ∧ IsR w' p (rdNum st).2 ∧ w.grownBy w' (some p) := by
  have C := Lib.hid (RNumber p st w h)
  have q : ((rdNum st).1 == k) = true := by simp [hk]
  generalize hx : rdNum st = x at *
  clear h hk hx
  go_enter Tryd.func62, Tryd.ntmps62
  go_wp2_with (first | (go_at_call 64; refine C.out.mono ?_; rintro e w' ⟨rfl, h1, h2⟩) | (go_at_call 107; refine (must_yes _).mono ?_; rintro e w' ⟨rfl, rfl⟩))
  go_end0
  exact ⟨rfl, h1, h2⟩
set_option maxHeartbeats 400000 in
theorem kind_no (p : Nat) (k : Int) (st : RS) (w : World) (h : IsR w p st) (hk : (rdNum st).1 ≠ k) :
    Calls Tryd.prog 62 #[.pointer (some ⟨p, 0, none⟩), .int .i64 k] w fun e w' => e = .panicked wrongP ∧ w.grownBy w' (some p) := by
  have C := Lib.hid (RNumber p st w h)
  have q : ((rdNum st).1 == k) = false := by simp [hk]
  generalize hx : rdNum st = x at *
  clear h hk hx
  go_enter Tryd.func62, Tryd.ntmps62
  go_wp2_with (first | (go_at_call 64; refine C.out.mono ?_; rintro e w' ⟨rfl, h1, h2⟩) | (go_at_call 107; refine (must_no _).mono ?_; rintro e w' ⟨rfl, rfl⟩))
  exact ⟨rfl, rfl, h2⟩

/-- what stands next, read as a packet; behind its kind -/
def rdPacket (s0 : RS) : PacketD × RS :=
  ({ seq := (rdNum s0).1, from_ := ⟨(rdText (rdNum s0).2).1.toArray⟩, data := ⟨(rdText (rdText (rdNum s0).2).2).1.toArray⟩, timeout := (rdNum (rdText (rdText (rdNum s0).2).2).2).1 },
   (rdNum (rdText (rdText (rdNum s0).2).2).2).2)
/-- the packet that bytes are -/
def decPacket (l : List UInt8) : Option PacketD :=
  if (rdNum (some l)).1 = 6 ∧ (rdPacket (rdNum (some l)).2).2 = some [] ∧ okPacket (rdPacket (rdNum (some l)).2).1 = true then some (rdPacket (rdNum (some l)).2).1 else none

theorem wrap64_R (n : Int) : i64R (wrap64 n) := by unfold i64R wrap64; omega
theorem rdNum_R (st : RS) : i64R (rdNum st).1 := wrap64_R _
theorem rdText_len (st : RS) : (rdText st).1.length ≤ 4096 := by
  unfold rdText
  cases st with
  | none => simp
  | some l =>
    dsimp only
    split
    · rename_i h; rw [List.length_take]; omega
    · simp
theorem str_ok {l : List UInt8} (h : l.length ≤ 4096) : (⟨l.toArray⟩ : ByteArray).size ≤ maxLen := by
  show l.toArray.size ≤ _
  rw [List.size_toArray]; unfold maxLen; omega
theorem rdPacket_wf (s : RS) : (rdPacket s).1.wf := ⟨rdNum_R _, str_ok (rdText_len _), str_ok (rdText_len _), rdNum_R _⟩

set_option maxHeartbeats 400000 in
theorem DecodePacketBody_yes (w : World) (l : List UInt8) (hk : (rdNum (some l)).1 = 6) :
    Takes 76 4 w l (fun cs _ => cs = (rdPacket (rdNum (some l)).2).1.cells) (rdPacket (rdNum (some l)).2).2 := by
  intro p w1 h hp
  have H := Lib.hid h; have Hk := Lib.hid hk
  clear h hk
  go_enter Tryd.func76, Tryd.ntmps76
  go_wp2_with (refine wpList_alloc_as rfl 38 rfl ZPacket ZPacket_info ?_)
  intro W1 b1 g1 s1
  have B1 := Lib.hid b1; have G1 := Lib.hid g1
  have hlt := H.out.lt
  have hne : w1.heap.size ≠ p := by omega
  have H1 := Lib.hid (H.out.grown g1)
  clear b1 g1 s1
  go_wp2_with fail
  refine (kind_yes p 6 _ _ H1.out Hk.out).mono ?_
  rintro e w2 ⟨rfl, h1, h2⟩
  have R := Lib.hid h1; have G := Lib.hid h2; clear h1 h2
  obtain ⟨s0, hs0⟩ : ∃ s0, (rdNum (some l)).2 = s0 := ⟨_, rfl⟩
  rw [hs0] at R
  have Hs0 := Lib.hid hs0; clear hs0
  go_wp2_with fail
  refine (RNumber p _ _ R.out).mono ?_
  rintro e w3 ⟨rfl, h1, h2⟩
  replace R := Lib.hid h1; replace G := Lib.hid (Lib.grownBy_trans G.out h2); clear h1 h2
  go_wp2_with fail
  refine (RText p _ _ R.out).mono ?_
  rintro e w4 ⟨rfl, h1, h2⟩
  replace R := Lib.hid h1; replace G := Lib.hid (Lib.grownBy_trans G.out h2); clear h1 h2
  go_wp2_with fail
  refine (RText p _ _ R.out).mono ?_
  rintro e w5 ⟨rfl, h1, h2⟩
  replace R := Lib.hid h1; replace G := Lib.hid (Lib.grownBy_trans G.out h2); clear h1 h2
  go_wp2_with fail
  refine (RNumber p _ _ R.out).mono ?_
  rintro e w6 ⟨rfl, h1, h2⟩
  replace R := Lib.hid h1; replace G := Lib.hid (Lib.grownBy_trans G.out h2); clear h1 h2
  have hcells : (rdPacket s0).1.cells.length = 4 := rfl
  have Hc := Lib.hid hcells; clear hcells
  go_wp2_with (refine wpList_store_whole rfl 38 _ _ rfl w1.heap.size rfl (rdPacket s0).1.cells ZPacket 38 rfl (B1.out.grown G.out (by simp; exact hne)) Hc.out (by simp [PacketD.cells, Value.oneCell']) (sizePacket _ Hc.out) ?_)
  intro w7 g7 s7 b7
  have B7 := Lib.hid b7; have G7 := Lib.hid g7; clear b7 g7 s7
  go_wp2_with fail
  refine bodyPost_ret (results_cell_one rfl _ _ ⟨w1.heap.size, 0, none⟩ _ rfl (run_loadVar_part _ _ _ 38 (rdPacket s0).1.cells _ B7.out.row Tryd.underlying38 rfl (sizePacket _ Hc.out))) rfl ?_
  obtain rfl := Hs0.out
  exact ⟨_, rfl, rfl, Hc.out, by simp [PacketD.cells, Value.oneCell'], R.out.grownAt G7.out hlt, grown_new (Lib.grownBy_trans (grown_none G1.out) G.out) G7.out (Nat.le_refl _)⟩

set_option maxHeartbeats 400000 in
theorem DecodePacketBody_no (w : World) (l : List UInt8) (hk : (rdNum (some l)).1 ≠ 6) : TakesNot 76 w l := by
  intro p w1 h hp
  have H := Lib.hid h; have Hk := Lib.hid hk
  clear h hk
  go_enter Tryd.func76, Tryd.ntmps76
  go_wp2_with (refine wpList_alloc_as rfl 38 rfl ZPacket ZPacket_info ?_)
  intro W1 b1 g1 s1
  have G1 := Lib.hid g1
  have H1 := Lib.hid (H.out.grown g1)
  clear b1 g1 s1
  go_wp2_with fail
  refine (kind_no p 6 _ _ H1.out Hk.out).mono ?_
  rintro e w2 ⟨rfl, h2⟩
  exact ⟨rfl, rfl, Lib.grownBy_trans (grown_none G1.out) h2⟩

theorem enters_DecodePacketBody : ∀ args w, (callFunc 76 args).run Tryd.prog w = .ok (.enter 76 args) w := enters Tryd.func76 (by kernel_rfl) rfl
theorem enters_checkPacket : ∀ args w, (callFunc 48 args).run Tryd.prog w = .ok (.enter 48 args) w := enters Tryd.func48 (by kernel_rfl) rfl

theorem decPacket_t (l : List UInt8) (hk : (rdNum (some l)).1 = 6) (h : (decide ((rdPacket (rdNum (some l)).2).2 = some []) && okPacket (rdPacket (rdNum (some l)).2).1) = true) : (decPacket l).map PacketD.cells = some (rdPacket (rdNum (some l)).2).1.cells := by
  rw [Bool.and_eq_true] at h
  unfold decPacket
  rw [if_pos ⟨hk, of_decide_eq_true h.1, h.2⟩]; rfl
theorem decPacket_f (l : List UInt8) (h : (decide ((rdPacket (rdNum (some l)).2).2 = some []) && okPacket (rdPacket (rdNum (some l)).2).1) = false) : (decPacket l).map PacketD.cells = none := by
  unfold decPacket
  rw [if_neg]; · rfl
  intro hc
  rw [hc.2.2, decide_eq_true hc.2.1] at h
  cases h
theorem decPacket_k (l : List UInt8) (hk : (rdNum (some l)).1 ≠ 6) : (decPacket l).map PacketD.cells = none := by
  unfold decPacket
  rw [if_neg (fun h => hk h.1)]; rfl

theorem decodePacket_any (v : Value) (l : List UInt8) (w : World) (hv : RdB w v l) (hl : l.length ≤ 100000000000) :
    Calls Tryd.prog 75 #[v, .func (.func 76) #[] #[], .func (.func 48) #[] #[]] w (Decodes ((decPacket l).map PacketD.cells) ZPacket w) := by
  by_cases hk : (rdNum (some l)).1 = 6
  · refine (decodePacket_gen 76 48 v l w (fun cs _ => cs = (rdPacket (rdNum (some l)).2).1.cells) (rdPacket (rdNum (some l)).2).2 (okPacket (rdPacket (rdNum (some l)).2).1) hv hl enters_DecodePacketBody enters_checkPacket (DecodePacketBody_yes w l hk)
      (fun cs w1 hc => by subst hc; exact checkPacket_any _ w1 (rdPacket_wf _)) (fun cs w1 w2 h _ _ => h)).mono ?_
    intro e w' h
    exact Decodes.of_gen h (fun _ _ h => h) (decPacket_t l hk) (decPacket_f l)
  · refine (decodePacket_not 76 48 v l w (fun _ _ => True) hv hl enters_DecodePacketBody enters_checkPacket (DecodePacketBody_no w l hk)).mono ?_
    intro e w' h
    exact Decodes.no (decPacket_k l hk) h.f.1 h.f.2

set_option maxHeartbeats 400000 in
theorem DecodePacket_any (v : Value) (l : List UInt8) (w : World) (hv : RdB w v l) (hl : l.length ≤ 100000000000) :
    Calls Tryd.prog 23 #[v] w (Decodes ((decPacket l).map PacketD.cells) ZPacket w) := by
  have Hv := Lib.hid hv; have Hl := Lib.hid hl
  clear hv hl
  go_enter Tryd.func23, Tryd.ntmps23
  go_wp2_with (refine wpList_alloc_as rfl 38 rfl ZPacket ZPacket_info ?_)
  intro W1 b1 g1 s1
  have B1 := Lib.hid b1; have G1 := Lib.hid g1; have S1 := Lib.hid s1
  clear b1 g1 s1
  go_wp2_with fail
  refine (decodePacket_any v l W1 (Hv.out.grown G1.out) Hl.out).mono ?_
  intro e w2 hd
  obtain ⟨r, hr⟩ : ∃ r, (decPacket l).map PacketD.cells = r := ⟨_, rfl⟩
  have hn4 : ∀ cs, r = some cs → cs.length = 4 ∧ ∀ v ∈ cs, v.oneCell' = true := by
    intro cs hc
    rw [hc] at hr
    cases hd : decPacket l with
    | none => rw [hd] at hr; cases hr
    | some pk => rw [hd] at hr; injection hr with hr; subst hr; exact ⟨rfl, by simp [PacketD.cells, Value.oneCell']⟩
  rw [hr] at hd
  have hb : Below W1.heap.size W1 w2 := hd.1
  have bel : Below w.heap.size w w2 := by
    have q1 : Below w.heap.size w W1 := ⟨G1.out.os, G1.out.tape, G1.out.output, G1.out.size, fun k hk => G1.out.block k hk (by simp)⟩
    exact q1.trans (hb.mono G1.out.size)
  have b2 := B1.out.below hb B1.out.lt
  have B2 := Lib.hid b2; have Bel := Lib.hid bel; clear b2 bel hb
  have Hr := Lib.hid hr
  clear hr
  cases r with
  | none =>
    obtain rfl := (hd.n rfl).2
    clear hd hn4
    go_wp2_with (refine wpList_store_whole rfl 38 _ _ rfl w.heap.size rfl ZPacket ZPacket 38 rfl B2.out rfl ZPacket_one (sizePacket _ ZPacket_length) ?_)
    intro w3 g3 s3 b3
    have B3 := Lib.hid b3; have G3 := Lib.hid g3; clear b3 g3 s3
    go_wp2_with fail
    refine bodyPost_ret (results_cell_tmp rfl _ _ ⟨w.heap.size, 0, none⟩ _ _ rfl rfl (run_loadVar_part _ _ _ 38 ZPacket _ B3.out.row Tryd.underlying38 rfl (sizePacket _ ZPacket_length))) rfl ?_
    exact Decodes.no Hr.out (Bel.out.trans ⟨G3.out.os, G3.out.tape, G3.out.output, G3.out.size, fun k hk => G3.out.block k (by have := Bel.out.size; omega) (by simp; omega)⟩) rfl
  | some cs =>
    obtain rfl := (hd.y rfl).2
    have Hc := Lib.hid (hn4 cs rfl)
    clear hd hn4
    go_wp2_with (refine wpList_store_whole rfl 38 _ _ rfl w.heap.size rfl cs ZPacket 38 rfl B2.out (by rw [Hc.out.1]; rfl) Hc.out.2 (sizePacket _ Hc.out.1) ?_)
    intro w3 g3 s3 b3
    have B3 := Lib.hid b3; have G3 := Lib.hid g3; clear b3 g3 s3
    go_wp2_with fail
    refine bodyPost_ret (results_cell_tmp rfl _ _ ⟨w.heap.size, 0, none⟩ _ _ rfl rfl (run_loadVar_part _ _ _ 38 cs _ B3.out.row Tryd.underlying38 rfl (sizePacket _ Hc.out.1))) rfl ?_
    exact Decodes.yes Hr.out (Bel.out.trans ⟨G3.out.os, G3.out.tape, G3.out.output, G3.out.size, fun k hk => G3.out.block k (by have := Bel.out.size; omega) (by simp; omega)⟩) rfl

end Go.Proofs.YtaffpgafbjhahaaDoor
