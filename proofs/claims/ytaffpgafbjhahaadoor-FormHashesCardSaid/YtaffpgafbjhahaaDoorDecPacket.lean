/- Walks: forms.decode at api.Packet. Walks: forms.kind, DecodePacket. -/
import Derived.Test.YtaffpgafbjhahaaDoorDecode
import Derived.Deep.Cut
import Derived.Deep.CutRange
import Derived.Test.YtaffpgafbjhahaaDoorPacket
namespace Go.Proofs.YtaffpgafbjhahaaDoor
open Go.RowKit
set_option maxRecDepth 100000

/-- the zero value's cells -/
def ZPacket : List Value := [.int .i64 0, .string ⟨#[]⟩, .string ⟨#[]⟩, .int .i64 0]
theorem ZPacket_info : (Tryd.prog.info? 38).map (fun i => i.zero.map (fun v => v.cells)) = some (some ZPacket.toArray) := by kernel_rfl
theorem ZPacket_length : ZPacket.length = 4 := by rfl
theorem sizePacket (cs : List Value) (h : cs.length = 4) : (Tryd.prog.info? 38).map (·.size) = some cs.length := by rw [h]; kernel_rfl
theorem ZPacket_one : ∀ v ∈ ZPacket, v.oneCell' = true := fun v hv => List.all_eq_true.1 (show ZPacket.all (·.oneCell') = true by kernel_rfl) v hv

set_option maxHeartbeats 400000 in
theorem decCatchPacket_panicking (m : Nat) (cs : List Value) (x : Value) (w : World) (h1 : Blk w m cs 38) (hn : cs.length = 4) (h2 : One w (m + 1) x) :
    CallsD Tryd.prog 128 #[.pointer (some ⟨m, 0, none⟩), .pointer (some ⟨m + 1, 0, none⟩)] (.panicking wrongP) w fun e u' w' =>
      e = .returned (.tuple #[]) ∧ u' = .panicking [{ v := .iface 182 (.agg #[]), recovered := true }] ∧ Blk w' m ZPacket 38 ∧ One w' (m + 1) (.int .i64 61) ∧ Below m w w' := by
  have H1 := Lib.hid h1; have H2 := Lib.hid h2; have Hn := Lib.hid hn
  clear h1 h2 hn
  refine callsD_of_wpS Tryd.func128 rfl fun c₀ cs0 hu => ?_
  simp only [Tryd.ntmps128, List.size_toArray, List.length_cons, List.length_nil, Nat.reduceAdd, Nat.reduceSub, Array.replicate_succ,
     Array.replicate_zero, List.push_toArray, List.append_toArray, List.nil_append, List.cons_append]
  apply wpS_seq
  apply wpS_region
  simp [wpOpsS, go_sem, recoverD, hu, wrongP, Exit.thenS]
  apply wpS_of_wp
  go_wp2_with fail
  refine (caught_wrong _).mono ?_; rintro e w1 ⟨rfl, hb⟩
  have b1 := H1.out.below hb H1.out.lt
  have b2 := H2.out.below hb (World.block_lt_of_cell? w ⟨m + 1, 0, none⟩ H2.out.1)
  have B1 := Lib.hid b1; have B2 := Lib.hid b2; have Hb := Lib.hid hb
  clear b1 b2 hb
  go_wp2_with (refine wpList_alloc_as rfl 38 rfl ZPacket ZPacket_info ?_)
  intro w2 k1 k2 k3
  have K1 := Lib.hid k1; have K2 := Lib.hid k2; clear k1 k2 k3
  go_wp2_with (first | (refine wpList_load_part rfl 38 _ rfl w1.heap.size 0 rfl ZPacket _ K1.out.row Tryd.underlying38 rfl (sizePacket _ ZPacket_length) ?_) | refine wpList_store_whole rfl 38 _ _ rfl m rfl ZPacket cs 38 rfl (B1.out.grown K2.out (by simp)) (by rw [Hn.out, ZPacket_length]) ZPacket_one (sizePacket _ ZPacket_length) ?_)
  intro w3 k1 k2 k3
  have d2 := (B2.out.grown K2.out (by simp)).grown k1 (by simp)
  obtain ⟨c2, f2⟩ := id d2
  have L1 := Lib.hid k1; have L3 := Lib.hid k3; have D2 := Lib.hid d2; clear k1 k2 k3 d2
  go_wp2
  have hm1 := H1.out.lt
  have hm2 := World.block_lt_of_cell? w ⟨m + 1, 0, none⟩ H2.out.1
  have hbel : Below m w w3 := (Hb.out.mono (Nat.le_of_lt hm1)).trans ⟨K2.out.os, K2.out.tape, K2.out.output, K2.out.size, fun k hk => K2.out.block k (by have := Hb.out.size; omega) (by simp)⟩ |>.trans
    ⟨L1.out.os, L1.out.tape, L1.out.output, L1.out.size, fun k hk => L1.out.block k (by have := Hb.out.size; have := K2.out.size; omega) (by simp; omega)⟩
  exact ⟨rfl, _, rfl, .tuple #[], results_none rfl _ _ _, rfl, rfl, (Below.heap_setCell w3 ⟨m + 1, 0, none⟩ _ m (by simp)).trans L3.out, D2.out.set _, hbel.setCell (by simp) _⟩

set_option maxHeartbeats 400000 in
theorem decCatchPacket_idle (p q : Addr) (w : World) :
    CallsD Tryd.prog 128 #[.pointer (some p), .pointer (some q)] .returning w fun e u' w' =>
      e = .returned (.tuple #[]) ∧ u' = .returning ∧ w' = w := by
  refine callsD_of_wpS Tryd.func128 rfl fun c₀ cs hu => ?_
  simp only [Tryd.ntmps128, List.size_toArray, List.length_cons, List.length_nil, Nat.reduceAdd, Nat.reduceSub, Array.replicate_succ,
     Array.replicate_zero, List.push_toArray, List.append_toArray, List.nil_append, List.cons_append]
  apply wpS_seq
  apply wpS_region
  simp [wpOpsS, go_sem, recoverD, hu, Exit.thenS]
  apply wpS_of_wp
  go_wp2
  exact ⟨rfl, _, by cases c₀; simp_all, .tuple #[], results_none rfl _ _ _, rfl, rfl, rfl⟩

set_option maxHeartbeats 1000000 in
theorem decodePacket_gen (F G : FuncId) (v : Value) (l : List UInt8) (w : World) (Good : List Value → World → Prop) (rest : RS) (ok : Bool) (hv : RdB w v l) (hl : l.length ≤ 100000000000)
    (hF : ∀ args w, (callFunc F args).run Tryd.prog w = .ok (.enter F args) w) (hG : ∀ args w, (callFunc G args).run Tryd.prog w = .ok (.enter G args) w)
    (HF : Takes F 4 w l Good rest) (HG : ∀ cs w1, Good cs w1 → Calls Tryd.prog G #[.agg cs.toArray] w1 (RetB ok w1)) (HK : Stays (w.heap.size + 2) Good) :
    Calls Tryd.prog 75 #[v, .func (.func F) #[] #[], .func (.func G) #[] #[]] w (DecPost Good (decide (rest = some []) && ok) ZPacket w) := by
  have hmf : ∀ (fn : Fn) (first cap : Array Value) (w : World), (Instr.makeFunc fn first cap).run Tryd.prog w = .ok (.func fn first cap) w := fun _ _ _ _ => rfl
  have Hv := Lib.hid hv; have Hl := Lib.hid hl; have HHF := Lib.hid HF; have HHG := Lib.hid HG; have HHK := Lib.hid HK
  clear hv hl HF HG HK
  go_enter_defers Tryd.func75, Tryd.ntmps75
  go_wp2_with (refine wpList_alloc_as rfl 38 rfl ZPacket ZPacket_info ?_)
  intro W1 b1 g1 s1
  have B1 := Lib.hid b1; have G1 := Lib.hid g1; clear b1 g1
  go_wp2_with (refine wpList_alloc_as rfl 31 rfl [.int .i64 0] (by kernel_rfl) ?_)
  intro W2 b2 g2 s2
  have B2 := Lib.hid b2; have G2 := Lib.hid g2; have S2 := Lib.hid s2; clear b2 g2 s1
  go_wp2_with fail
  have gW := Lib.grownBy_trans G1.out G2.out
  refine (NewReader_any v l W2 (Hv.out.grown gW) Hl.out).mono ?_
  rintro e w3 ⟨p, rfl, r1, hp, r2⟩
  rw [s2] at hp
  have R1 := Lib.hid r1; have R2 := Lib.hid r2; have Hp := Lib.hid hp; have GW := Lib.hid gW
  clear r1 r2 hp gW s2
  go_wp2_with fail
  refine (HHF.out p w3 R1.out Hp.out).mono ?_
  rintro e w4 ⟨cs, rfl, gd, hn, h1, r3, gr⟩
  have hlt0 : w.heap.size + 2 ≤ W2.heap.size := by rw [S2.out]; omega
  have b4 : Blk w4 w.heap.size ZPacket 38 := (((B1.out.grown G2.out (by simp)).below R2.out (by have := hlt0; omega)).grown gr (by have := Hp.out; simp; omega))
  have e4 : One w4 (w.heap.size + 1) (.int .i64 0) := (((One.of_blk B2.out).below R2.out (by have := hlt0; omega)).grown gr (by have := Hp.out; simp; omega))
  have bel4 : Below w.heap.size w w4 := by
    have q1 : Below w.heap.size w W2 := ⟨GW.out.os, GW.out.tape, GW.out.output, GW.out.size, fun k hk => GW.out.block k hk (by simp)⟩
    have q2 := q1.trans (R2.out.mono (by omega))
    exact q2.trans ⟨gr.os, gr.tape, gr.output, gr.size, fun k hk => gr.block k (by have := q2.size; omega) (by have := Hp.out; simp; omega)⟩
  have GD := Lib.hid gd; have Hn := Lib.hid hn; have H1 := Lib.hid h1; have R3 := Lib.hid r3; have B4 := Lib.hid b4; have E4 := Lib.hid e4; have Bel4 := Lib.hid bel4
  clear gd hn h1 r3 gr hlt0 b4 e4 bel4
  go_wp2_with (refine wpList_store_whole rfl 38 _ _ rfl w.heap.size rfl cs ZPacket 38 rfl B4.out (by rw [Hn.out, ZPacket_length]) H1.out (sizePacket _ Hn.out) ?_)
  intro w5 g5 s5 b5
  have r5 := R3.out.e.grown g5 (by have := Hp.out; simp; omega)
  have e5 := E4.out.grown g5 (by simp)
  have gd5 := HHK.out.grown GD.out g5 (by omega)
  have bel5 : Below w.heap.size w w5 := Bel4.out.trans ⟨g5.os, g5.tape, g5.output, g5.size, fun k hk => g5.block k (by have := Bel4.out.size; omega) (by simp; omega)⟩
  have R5 := Lib.hid r5; have E5 := Lib.hid e5; have GD5 := Lib.hid gd5; have B5 := Lib.hid b5; have Bel5 := Lib.hid bel5
  clear g5 s5 b5 r5 e5 gd5 bel5
  go_wp2_with fail
  refine (REnd p rest w5 R5.out).mono ?_
  rintro e w' ⟨rfl, rfl⟩
  by_cases hrest : rest = some []
  · subst hrest
    have q0 : (rdEnd (some []) == 0) = true := rfl
    go_wp2_with (first | (go_at_call 107; refine (must_yes _).mono ?_; rintro e w' ⟨rfl, rfl⟩) | refine wpList_load_part rfl 38 _ rfl w.heap.size 0 rfl cs _ B5.out.row Tryd.underlying38 rfl (sizePacket _ Hn.out) ?_)
    refine (HHG.out cs w5 GD5.out).mono ?_
    rintro e w6 ⟨he, hb6⟩
    have bel6 := Bel5.out.trans (hb6.mono Bel5.out.size)
    have b6 := B5.out.below hb6 B5.out.lt
    have e6 := E5.out.below hb6 (World.block_lt_of_cell? w5 ⟨w.heap.size + 1, 0, none⟩ E5.out.1)
    have gd6 := HHK.out.below GD5.out hb6
    have B6 := Lib.hid b6; have E6 := Lib.hid e6; have GD6 := Lib.hid gd6; have Bel6 := Lib.hid bel6
    clear b6 e6 gd6 bel6 hb6
    cases ok with
    | true =>
      obtain rfl := he
      go_wp2_with (first | (refine wpList_load_part rfl 38 _ rfl w.heap.size 0 rfl cs _ B6.out.row Tryd.underlying38 rfl (sizePacket _ Hn.out) ?_) | (refine wpList_store_whole rfl 38 _ _ rfl w.heap.size rfl cs cs 38 rfl B6.out rfl H1.out (sizePacket _ Hn.out) ?_))
      intro w7 g7 s7 b7
      have e7 := E6.out.grown g7 (by simp)
      have gd7 := HHK.out.grown GD6.out g7 (by omega)
      have bel7 : Below w.heap.size w w7 := Bel6.out.trans ⟨g7.os, g7.tape, g7.output, g7.size, fun k hk => g7.block k (by have := Bel6.out.size; omega) (by simp; omega)⟩
      obtain ⟨c7, f7⟩ := id e7
      have E7 := Lib.hid e7; have GD7 := Lib.hid gd7; have Bel7 := Lib.hid bel7; have B7 := Lib.hid b7
      clear g7 s7 b7 e7 gd7 bel7
      go_wp2
      refine leaves_cons (f := 128) (args := #[.pointer (some ⟨w.heap.size, 0, none⟩), .pointer (some ⟨w.heap.size + 1, 0, none⟩)]) (by simp) (by simp [go_sem]) ?_
      refine (decCatchPacket_idle _ _ _).mono ?_
      rintro e u' w'' ⟨rfl, rfl, rfl⟩
      have bf : Blk (w7.setCell ⟨w.heap.size + 1, 0, none⟩ (.int .i64 0)) w.heap.size cs 38 := (Below.heap_setCell w7 ⟨w.heap.size + 1, 0, none⟩ _ w.heap.size (by simp)).trans B7.out
      refine ⟨.tuple #[.agg cs.toArray, .int .i64 0], results_two rfl _ _ ⟨w.heap.size, 0, none⟩ ⟨w.heap.size + 1, 0, none⟩ _ _ rfl rfl (run_loadVar_part _ _ _ 38 cs _ bf.row Tryd.underlying38 rfl (sizePacket _ Hn.out)) (run_loadVar_plain _ _ _ _ _ Tryd.underlying31 rfl (E7.out.set _).1), ?_⟩
      exact ⟨Bel7.out.setCell (by simp) _, cs, rfl, HHK.out.grown GD7.out (Lib.grownBy_setCell w7 (w.heap.size + 1) 0 _) (by omega)⟩
    | false =>
      obtain rfl := he
      refine leaves_cons (f := 128) (args := #[.pointer (some ⟨w.heap.size, 0, none⟩), .pointer (some ⟨w.heap.size + 1, 0, none⟩)]) (by simp) (by simp [go_sem]) ?_
      refine (decCatchPacket_panicking w.heap.size cs _ _ B6.out Hn.out E6.out).mono ?_
      rintro e u' w'' ⟨rfl, rfl, k1, k2, k3⟩
      refine ⟨.tuple #[.agg ZPacket.toArray, .int .i64 61], results_two rfl _ _ ⟨w.heap.size, 0, none⟩ ⟨w.heap.size + 1, 0, none⟩ _ _ rfl rfl (run_loadVar_part _ _ _ 38 ZPacket _ k1.row Tryd.underlying38 rfl (sizePacket _ ZPacket_length)) (run_loadVar_plain _ _ _ _ _ Tryd.underlying31 rfl k2.1), ?_⟩
      exact ⟨Bel6.out.trans k3, by simp⟩
  · have q0 := rdEnd_nz hrest
    go_wp2_with (go_at_call 107; refine (must_no _).mono ?_; rintro e w' ⟨rfl, rfl⟩)
    refine leaves_cons (f := 128) (args := #[.pointer (some ⟨w.heap.size, 0, none⟩), .pointer (some ⟨w.heap.size + 1, 0, none⟩)]) (by simp) (by simp [go_sem]) ?_
    refine (decCatchPacket_panicking w.heap.size cs _ _ B5.out Hn.out E5.out).mono ?_
    rintro e u' w'' ⟨rfl, rfl, k1, k2, k3⟩
    refine ⟨.tuple #[.agg ZPacket.toArray, .int .i64 61], results_two rfl _ _ ⟨w.heap.size, 0, none⟩ ⟨w.heap.size + 1, 0, none⟩ _ _ rfl rfl (run_loadVar_part _ _ _ 38 ZPacket _ k1.row Tryd.underlying38 rfl (sizePacket _ ZPacket_length)) (run_loadVar_plain _ _ _ _ _ Tryd.underlying31 rfl k2.1), ?_⟩
    exact ⟨Bel5.out.trans k3, by simp [hrest]⟩

set_option maxHeartbeats 1000000 in
theorem decodePacket_not (F G : FuncId) (v : Value) (l : List UInt8) (w : World) (Good : List Value → World → Prop) (hv : RdB w v l) (hl : l.length ≤ 100000000000)
    (hF : ∀ args w, (callFunc F args).run Tryd.prog w = .ok (.enter F args) w) (_hG : ∀ args w, (callFunc G args).run Tryd.prog w = .ok (.enter G args) w)
    (HF : TakesNot F w l) :
    Calls Tryd.prog 75 #[v, .func (.func F) #[] #[], .func (.func G) #[] #[]] w (DecPost Good false ZPacket w) := by
  have hmf : ∀ (fn : Fn) (first cap : Array Value) (w : World), (Instr.makeFunc fn first cap).run Tryd.prog w = .ok (.func fn first cap) w := fun _ _ _ _ => rfl
  have Hv := Lib.hid hv; have Hl := Lib.hid hl; have HHF := Lib.hid HF
  clear hv hl HF
  go_enter_defers Tryd.func75, Tryd.ntmps75
  go_wp2_with (refine wpList_alloc_as rfl 38 rfl ZPacket ZPacket_info ?_)
  intro W1 b1 g1 s1
  have B1 := Lib.hid b1; have G1 := Lib.hid g1; clear b1 g1
  go_wp2_with (refine wpList_alloc_as rfl 31 rfl [.int .i64 0] (by kernel_rfl) ?_)
  intro W2 b2 g2 s2
  have B2 := Lib.hid b2; have G2 := Lib.hid g2; have S2 := Lib.hid s2; clear b2 g2 s1
  go_wp2_with fail
  have gW := Lib.grownBy_trans G1.out G2.out
  refine (NewReader_any v l W2 (Hv.out.grown gW) Hl.out).mono ?_
  rintro e w3 ⟨p, rfl, r1, hp, r2⟩
  rw [s2] at hp
  have R1 := Lib.hid r1; have R2 := Lib.hid r2; have Hp := Lib.hid hp; have GW := Lib.hid gW
  clear r1 r2 hp gW s2
  go_wp2_with fail
  refine (HHF.out p w3 R1.out Hp.out).mono ?_
  rintro e w4 ⟨rfl, gr⟩
  have hlt0 : w.heap.size + 2 ≤ W2.heap.size := by rw [S2.out]; omega
  have b4 : Blk w4 w.heap.size ZPacket 38 := (((B1.out.grown G2.out (by simp)).below R2.out (by have := hlt0; omega)).grown gr (by have := Hp.out; simp; omega))
  have e4 : One w4 (w.heap.size + 1) (.int .i64 0) := (((One.of_blk B2.out).below R2.out (by have := hlt0; omega)).grown gr (by have := Hp.out; simp; omega))
  have bel4 : Below w.heap.size w w4 := by
    have q1 : Below w.heap.size w W2 := ⟨GW.out.os, GW.out.tape, GW.out.output, GW.out.size, fun k hk => GW.out.block k hk (by simp)⟩
    have q2 := q1.trans (R2.out.mono (by omega))
    exact q2.trans ⟨gr.os, gr.tape, gr.output, gr.size, fun k hk => gr.block k (by have := q2.size; omega) (by have := Hp.out; simp; omega)⟩
  refine leaves_cons (f := 128) (args := #[.pointer (some ⟨w.heap.size, 0, none⟩), .pointer (some ⟨w.heap.size + 1, 0, none⟩)]) (by simp) (by simp [go_sem]) ?_
  refine (decCatchPacket_panicking w.heap.size ZPacket _ _ b4 ZPacket_length e4).mono ?_
  rintro e u' w'' ⟨rfl, rfl, k1, k2, k3⟩
  refine ⟨.tuple #[.agg ZPacket.toArray, .int .i64 61], results_two rfl _ _ ⟨w.heap.size, 0, none⟩ ⟨w.heap.size + 1, 0, none⟩ _ _ rfl rfl (run_loadVar_part _ _ _ 38 ZPacket _ k1.row Tryd.underlying38 rfl (sizePacket _ ZPacket_length)) (run_loadVar_plain _ _ _ _ _ Tryd.underlying31 rfl k2.1), ?_⟩
  exact ⟨bel4.trans k3, by simp⟩

set_option maxHeartbeats 400000 in
theorem kind_yes (p : Nat) (k : Int) (st : RS) (w : World) (h : IsR w p st) (hk : (rdNum st).1 = k) :
    Calls Tryd.prog 62 #[.pointer (some ⟨p, 0, none⟩), .int .i64 k] w fun e w' => e = .returned (.tuple #[]) ∧ IsR w' p (rdNum st).2 ∧ w.grownBy w' (some p) := by
  have C := Lib.hid (RNumber p st w h)
  have q : ((rdNum st).1 == k) = true := by simp [hk]
  generalize hx : rdNum st = x at *
  clear h hk hx
  go_enter Tryd.func62, Tryd.ntmps62
  go_wp2_with (first | (go_at_call 64; refine C.out.mono ?_; rintro e w' ⟨rfl, h1, h2⟩) | (go_at_call 107; refine (must_yes _).mono ?_; rintro e w' ⟨rfl, rfl⟩))
  go_end0
  exact ⟨rfl, h1, h2⟩
set_option maxHeartbeats 400000 in
theorem kind_no (p : Nat) (k : Int) (st : RS) (w : World) (h : IsR w p st) (hk : (rdNum st).1 ≠ k) :
    Calls Tryd.prog 62 #[.pointer (some ⟨p, 0, none⟩), .int .i64 k] w fun e w' => e = .panicked wrongP ∧ w.grownBy w' (some p) := by
  have C := Lib.hid (RNumber p st w h)
  have q : ((rdNum st).1 == k) = false := by simp [hk]
  generalize hx : rdNum st = x at *
  clear h hk hx
  go_enter Tryd.func62, Tryd.ntmps62
  go_wp2_with (first | (go_at_call 64; refine C.out.mono ?_; rintro e w' ⟨rfl, h1, h2⟩) | (go_at_call 107; refine (must_no _).mono ?_; rintro e w' ⟨rfl, rfl⟩))
  exact ⟨rfl, rfl, h2⟩

/-- what stands next, read as a packet; behind its kind -/
def rdPacket (s0 : RS) : PacketD × RS :=
  ({ seq := (rdNum s0).1, from_ := ⟨(rdText (rdNum s0).2).1.toArray⟩, data := ⟨(rdText (rdText (rdNum s0).2).2).1.toArray⟩, timeout := (rdNum (rdText (rdText (rdNum s0).2).2).2).1 },
   (rdNum (rdText (rdText (rdNum s0).2).2).2).2)
/-- the packet that bytes are -/
def decPacket (l : List UInt8) : Option PacketD :=
  if (rdNum (some l)).1 = 6 ∧ (rdPacket (rdNum (some l)).2).2 = some [] ∧ okPacket (rdPacket (rdNum (some l)).2).1 = true then some (rdPacket (rdNum (some l)).2).1 else none

theorem wrap64_R (n : Int) : i64R (wrap64 n) := by unfold i64R wrap64; omega
theorem rdNum_R (st : RS) : i64R (rdNum st).1 := wrap64_R _
theorem rdText_len (st : RS) : (rdText st).1.length ≤ 4096 := by
  unfold rdText
  cases st with
  | none => simp
  | some l =>
    dsimp only
    split
    · rename_i h; rw [List.length_take]; omega
    · simp
theorem str_ok {l : List UInt8} (h : l.length ≤ 4096) : (⟨l.toArray⟩ : ByteArray).size ≤ maxLen := by
  show l.toArray.size ≤ _
  rw [List.size_toArray]; unfold maxLen; omega
theorem rdPacket_wf (s : RS) : (rdPacket s).1.wf := ⟨rdNum_R _, str_ok (rdText_len _), str_ok (rdText_len _), rdNum_R _⟩

set_option maxHeartbeats 400000 in
theorem DecodePacketBody_yes (w : World) (l : List UInt8) (hk : (rdNum (some l)).1 = 6) :
    Takes 76 4 w l (fun cs _ => cs = (rdPacket (rdNum (some l)).2).1.cells) (rdPacket (rdNum (some l)).2).2 := by
  intro p w1 h hp
  have H := Lib.hid h; have Hk := Lib.hid hk
  clear h hk
  go_enter Tryd.func76, Tryd.ntmps76
  go_wp2_with (refine wpList_alloc_as rfl 38 rfl ZPacket ZPacket_info ?_)
  intro W1 b1 g1 s1
  have B1 := Lib.hid b1; have G1 := Lib.hid g1
  have hlt := H.out.lt
  have hne : w1.heap.size ≠ p := by omega
  have H1 := Lib.hid (H.out.grown g1)
  clear b1 g1 s1
  go_wp2_with fail
  refine (kind_yes p 6 _ _ H1.out Hk.out).mono ?_
  rintro e w2 ⟨rfl, h1, h2⟩
  have R := Lib.hid h1; have G := Lib.hid h2; clear h1 h2
  obtain ⟨s0, hs0⟩ : ∃ s0, (rdNum (some l)).2 = s0 := ⟨_, rfl⟩
  rw [hs0] at R
  have Hs0 := Lib.hid hs0; clear hs0
  go_wp2_with fail
  refine (RNumber p _ _ R.out).mono ?_
  rintro e w3 ⟨rfl, h1, h2⟩
  replace R := Lib.hid h1; replace G := Lib.hid (Lib.grownBy_trans G.out h2); clear h1 h2
  go_wp2_with fail
  refine (RText p _ _ R.out).mono ?_
  rintro e w4 ⟨rfl, h1, h2⟩
  replace R := Lib.hid h1; replace G := Lib.hid (Lib.grownBy_trans G.out h2); clear h1 h2
  go_wp2_with fail
  refine (RText p _ _ R.out).mono ?_
  rintro e w5 ⟨rfl, h1, h2⟩
  replace R := Lib.hid h1; replace G := Lib.hid (Lib.grownBy_trans G.out h2); clear h1 h2
  go_wp2_with fail
  refine (RNumber p _ _ R.out).mono ?_
  rintro e w6 ⟨rfl, h1, h2⟩
  replace R := Lib.hid h1; replace G := Lib.hid (Lib.grownBy_trans G.out h2); clear h1 h2
  have hcells : (rdPacket s0).1.cells.length = 4 := rfl
  have Hc := Lib.hid hcells; clear hcells
  go_wp2_with (refine wpList_store_whole rfl 38 _ _ rfl w1.heap.size rfl (rdPacket s0).1.cells ZPacket 38 rfl (B1.out.grown G.out (by simp; exact hne)) Hc.out (by simp [PacketD.cells, Value.oneCell']) (sizePacket _ Hc.out) ?_)
  intro w7 g7 s7 b7
  have B7 := Lib.hid b7; have G7 := Lib.hid g7; clear b7 g7 s7
  go_wp2_with fail
  refine bodyPost_ret (results_cell_one rfl _ _ ⟨w1.heap.size, 0, none⟩ _ rfl (run_loadVar_part _ _ _ 38 (rdPacket s0).1.cells _ B7.out.row Tryd.underlying38 rfl (sizePacket _ Hc.out))) rfl ?_
  obtain rfl := Hs0.out
  exact ⟨_, rfl, rfl, Hc.out, by simp [PacketD.cells, Value.oneCell'], R.out.grownAt G7.out hlt, grown_new (Lib.grownBy_trans (grown_none G1.out) G.out) G7.out (Nat.le_refl _)⟩

set_option maxHeartbeats 400000 in
theorem DecodePacketBody_no (w : World) (l : List UInt8) (hk : (rdNum (some l)).1 ≠ 6) : TakesNot 76 w l := by
  intro p w1 h hp
  have H := Lib.hid h; have Hk := Lib.hid hk
  clear h hk
  go_enter Tryd.func76, Tryd.ntmps76
  go_wp2_with (refine wpList_alloc_as rfl 38 rfl ZPacket ZPacket_info ?_)
  intro W1 b1 g1 s1
  have G1 := Lib.hid g1
  have H1 := Lib.hid (H.out.grown g1)
  clear b1 g1 s1
  go_wp2_with fail
  refine (kind_no p 6 _ _ H1.out Hk.out).mono ?_
  rintro e w2 ⟨rfl, h2⟩
  exact ⟨rfl, rfl, Lib.grownBy_trans (grown_none G1.out) h2⟩

theorem enters_DecodePacketBody : ∀ args w, (callFunc 76 args).run Tryd.prog w = .ok (.enter 76 args) w := enters Tryd.func76 (by kernel_rfl) rfl
theorem enters_checkPacket : ∀ args w, (callFunc 48 args).run Tryd.prog w = .ok (.enter 48 args) w := enters Tryd.func48 (by kernel_rfl) rfl

theorem decPacket_t (l : List UInt8) (hk : (rdNum (some l)).1 = 6) (h : (decide ((rdPacket (rdNum (some l)).2).2 = some []) && okPacket (rdPacket (rdNum (some l)).2).1) = true) : (decPacket l).map PacketD.cells = some (rdPacket (rdNum (some l)).2).1.cells := by
  rw [Bool.and_eq_true] at h
  unfold decPacket
  rw [if_pos ⟨hk, of_decide_eq_true h.1, h.2⟩]; rfl
theorem decPacket_f (l : List UInt8) (h : (decide ((rdPacket (rdNum (some l)).2).2 = some []) && okPacket (rdPacket (rdNum (some l)).2).1) = false) : (decPacket l).map PacketD.cells = none := by
  unfold decPacket
  rw [if_neg]; · rfl
  intro hc
  rw [hc.2.2, decide_eq_true hc.2.1] at h
  cases h
theorem decPacket_k (l : List UInt8) (hk : (rdNum (some l)).1 ≠ 6) : (decPacket l).map PacketD.cells = none := by
  unfold decPacket
  rw [if_neg (fun h => hk h.1)]; rfl

theorem decodePacket_any (v : Value) (l : List UInt8) (w : World) (hv : RdB w v l) (hl : l.length ≤ 100000000000) :
    Calls Tryd.prog 75 #[v, .func (.func 76) #[] #[], .func (.func 48) #[] #[]] w (Decodes ((decPacket l).map PacketD.cells) ZPacket w) := by
  by_cases hk : (rdNum (some l)).1 = 6
  · refine (decodePacket_gen 76 48 v l w (fun cs _ => cs = (rdPacket (rdNum (some l)).2).1.cells) (rdPacket (rdNum (some l)).2).2 (okPacket (rdPacket (rdNum (some l)).2).1) hv hl enters_DecodePacketBody enters_checkPacket (DecodePacketBody_yes w l hk)
      (fun cs w1 hc => by subst hc; exact checkPacket_any _ w1 (rdPacket_wf _)) (fun cs w1 w2 h _ _ => h)).mono ?_
    intro e w' h
    exact Decodes.of_gen h (fun _ _ h => h) (decPacket_t l hk) (decPacket_f l)
  · refine (decodePacket_not 76 48 v l w (fun _ _ => True) hv hl enters_DecodePacketBody enters_checkPacket (DecodePacketBody_no w l hk)).mono ?_
    intro e w' h
    exact Decodes.no (decPacket_k l hk) h.f.1 h.f.2

set_option maxHeartbeats 400000 in
theorem DecodePacket_any (v : Value) (l : List UInt8) (w : World) (hv : RdB w v l) (hl : l.length ≤ 100000000000) :
    Calls Tryd.prog 23 #[v] w (Decodes ((decPacket l).map PacketD.cells) ZPacket w) := by
  have Hv := Lib.hid hv; have Hl := Lib.hid hl
  clear hv hl
  go_enter Tryd.func23, Tryd.ntmps23
  go_wp2_with (refine wpList_alloc_as rfl 38 rfl ZPacket ZPacket_info ?_)
  intro W1 b1 g1 s1
  have B1 := Lib.hid b1; have G1 := Lib.hid g1; have S1 := Lib.hid s1
  clear b1 g1 s1
  go_wp2_with fail
  refine (decodePacket_any v l W1 (Hv.out.grown G1.out) Hl.out).mono ?_
  intro e w2 hd
  obtain ⟨r, hr⟩ : ∃ r, (decPacket l).map PacketD.cells = r := ⟨_, rfl⟩
  have hn4 : ∀ cs, r = some cs → cs.length = 4 ∧ ∀ v ∈ cs, v.oneCell' = true := by
    intro cs hc
    rw [hc] at hr
    cases hd : decPacket l with
    | none => rw [hd] at hr; cases hr
    | some pk => rw [hd] at hr; injection hr with hr; subst hr; exact ⟨rfl, by simp [PacketD.cells, Value.oneCell']⟩
  rw [hr] at hd
  have hb : Below W1.heap.size W1 w2 := hd.1
  have bel : Below w.heap.size w w2 := by
    have q1 : Below w.heap.size w W1 := ⟨G1.out.os, G1.out.tape, G1.out.output, G1.out.size, fun k hk => G1.out.block k hk (by simp)⟩
    exact q1.trans (hb.mono G1.out.size)
  have b2 := B1.out.below hb B1.out.lt
  have B2 := Lib.hid b2; have Bel := Lib.hid bel; clear b2 bel hb
  have Hr := Lib.hid hr
  clear hr
  cases r with
  | none =>
    obtain rfl := (hd.n rfl).2
    clear hd hn4
    go_wp2_with (refine wpList_store_whole rfl 38 _ _ rfl w.heap.size rfl ZPacket ZPacket 38 rfl B2.out rfl ZPacket_one (sizePacket _ ZPacket_length) ?_)
    intro w3 g3 s3 b3
    have B3 := Lib.hid b3; have G3 := Lib.hid g3; clear b3 g3 s3
    go_wp2_with fail
    refine bodyPost_ret (results_cell_tmp rfl _ _ ⟨w.heap.size, 0, none⟩ _ _ rfl rfl (run_loadVar_part _ _ _ 38 ZPacket _ B3.out.row Tryd.underlying38 rfl (sizePacket _ ZPacket_length))) rfl ?_
    exact Decodes.no Hr.out (Bel.out.trans ⟨G3.out.os, G3.out.tape, G3.out.output, G3.out.size, fun k hk => G3.out.block k (by have := Bel.out.size; omega) (by simp; omega)⟩) rfl
  | some cs =>
    obtain rfl := (hd.y rfl).2
    have Hc := Lib.hid (hn4 cs rfl)
    clear hd hn4
    go_wp2_with (refine wpList_store_whole rfl 38 _ _ rfl w.heap.size rfl cs ZPacket 38 rfl B2.out (by rw [Hc.out.1]; rfl) Hc.out.2 (sizePacket _ Hc.out.1) ?_)
    intro w3 g3 s3 b3
    have B3 := Lib.hid b3; have G3 := Lib.hid g3; clear b3 g3 s3
    go_wp2_with fail
    refine bodyPost_ret (results_cell_tmp rfl _ _ ⟨w.heap.size, 0, none⟩ _ _ rfl rfl (run_loadVar_part _ _ _ 38 cs _ B3.out.row Tryd.underlying38 rfl (sizePacket _ Hc.out.1))) rfl ?_
    exact Decodes.yes Hr.out (Bel.out.trans ⟨G3.out.os, G3.out.tape, G3.out.output, G3.out.size, fun k hk => G3.out.block k (by have := Bel.out.size; omega) (by simp; omega)⟩) rfl

end Go.Proofs.YtaffpgafbjhahaaDoor
