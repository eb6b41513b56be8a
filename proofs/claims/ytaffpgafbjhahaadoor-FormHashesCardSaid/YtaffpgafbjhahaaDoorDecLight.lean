/- Walks: forms.decode at api.Light. -/
import Derived.Test.YtaffpgafbjhahaaDoorDecode
import Derived.Deep.Cut
import Derived.Deep.CutRange
namespace Go.Proofs.YtaffpgafbjhahaaDoor
open Go.RowKit
set_option maxRecDepth 100000

/-- the zero value's cells -/
def ZLight : List Value := [.string ⟨#[]⟩, .int .i64 0, .int .i64 0] ++ Lib.byteCells (List.replicate 32 0) ++ Lib.byteCells (List.replicate 32 0) ++ Lib.byteCells (List.replicate 32 0) ++ Lib.byteCells (List.replicate 32 0) ++ Lib.byteCells (List.replicate 32 0) ++ ([.int .i64 0, .int .i64 0] ++ Lib.byteCells (List.replicate 32 0) ++ [.slice none 0 0]) ++ [.slice none 0 0, .slice none 0 0]
theorem ZLight_info : (Tryd.prog.info? 71).map (fun i => i.zero.map (fun v => v.cells)) = some (some ZLight.toArray) := by kernel_rfl
theorem ZLight_length : ZLight.length = 200 := by rfl
theorem sizeLight (cs : List Value) (h : cs.length = 200) : (Tryd.prog.info? 71).map (·.size) = some cs.length := by rw [h]; kernel_rfl
theorem ZLight_one : ∀ v ∈ ZLight, v.oneCell' = true := fun v hv => List.all_eq_true.1 (show ZLight.all (·.oneCell') = true by kernel_rfl) v hv

set_option maxHeartbeats 400000 in
theorem decCatchLight_panicking (m : Nat) (cs : List Value) (x : Value) (w : World) (h1 : Blk w m cs 71) (hn : cs.length = 200) (h2 : One w (m + 1) x) :
    CallsD Tryd.prog 133 #[.pointer (some ⟨m, 0, none⟩), .pointer (some ⟨m + 1, 0, none⟩)] (.panicking wrongP) w fun e u' w' =>
      e = .returned (.tuple #[]) ∧ u' = .panicking [{ v := .iface 182 (.agg #[]), recovered := true }] ∧ Blk w' m ZLight 71 ∧ One w' (m + 1) (.int .i64 61) ∧ Below m w w' := by
  have H1 := Lib.hid h1; have H2 := Lib.hid h2; have Hn := Lib.hid hn
  clear h1 h2 hn
  refine callsD_of_wpS Tryd.func133 rfl fun c₀ cs0 hu => ?_
  simp only [Tryd.ntmps133, List.size_toArray, List.length_cons, List.length_nil, Nat.reduceAdd, Nat.reduceSub, Array.replicate_succ,
     Array.replicate_zero, List.push_toArray, List.append_toArray, List.nil_append, List.cons_append]
  apply wpS_seq
  apply wpS_region
  simp [wpOpsS, go_sem, recoverD, hu, wrongP, Exit.thenS]
  apply wpS_of_wp
  go_wp2_with fail
  refine (caught_wrong _).mono ?_; rintro e w1 ⟨rfl, hb⟩
  have b1 := H1.out.below hb H1.out.lt
  have b2 := H2.out.below hb (World.block_lt_of_cell? w ⟨m + 1, 0, none⟩ H2.out.1)
  have B1 := Lib.hid b1; have B2 := Lib.hid b2; have Hb := Lib.hid hb
  clear b1 b2 hb
  go_wp2_with (refine wpList_alloc_as rfl 71 rfl ZLight ZLight_info ?_)
  intro w2 k1 k2 k3
  have K1 := Lib.hid k1; have K2 := Lib.hid k2; clear k1 k2 k3
  go_wp2_with (first | (refine wpList_load_part rfl 71 _ rfl w1.heap.size 0 rfl ZLight _ K1.out.row Tryd.underlying71 rfl (sizeLight _ ZLight_length) ?_) | refine wpList_store_whole rfl 71 _ _ rfl m rfl ZLight cs 71 rfl (B1.out.grown K2.out (by simp)) (by rw [Hn.out, ZLight_length]) ZLight_one (sizeLight _ ZLight_length) ?_)
  intro w3 k1 k2 k3
  have d2 := (B2.out.grown K2.out (by simp)).grown k1 (by simp)
  obtain ⟨c2, f2⟩ := id d2
  have L1 := Lib.hid k1; have L3 := Lib.hid k3; have D2 := Lib.hid d2; clear k1 k2 k3 d2
  go_wp2
  have hm1 := H1.out.lt
  have hm2 := World.block_lt_of_cell? w ⟨m + 1, 0, none⟩ H2.out.1
  have hbel : Below m w w3 := (Hb.out.mono (Nat.le_of_lt hm1)).trans ⟨K2.out.os, K2.out.tape, K2.out.output, K2.out.size, fun k hk => K2.out.block k (by have := Hb.out.size; omega) (by simp)⟩ |>.trans
    ⟨L1.out.os, L1.out.tape, L1.out.output, L1.out.size, fun k hk => L1.out.block k (by have := Hb.out.size; have := K2.out.size; omega) (by simp; omega)⟩
  exact ⟨rfl, _, rfl, .tuple #[], results_none rfl _ _ _, rfl, rfl, (Below.heap_setCell w3 ⟨m + 1, 0, none⟩ _ m (by simp)).trans L3.out, D2.out.set _, hbel.setCell (by simp) _⟩

set_option maxHeartbeats 400000 in
theorem decCatchLight_idle (p q : Addr) (w : World) :
    CallsD Tryd.prog 133 #[.pointer (some p), .pointer (some q)] .returning w fun e u' w' =>
      e = .returned (.tuple #[]) ∧ u' = .returning ∧ w' = w := by
  refine callsD_of_wpS Tryd.func133 rfl fun c₀ cs hu => ?_
  simp only [Tryd.ntmps133, List.size_toArray, List.length_cons, List.length_nil, Nat.reduceAdd, Nat.reduceSub, Array.replicate_succ,
     Array.replicate_zero, List.push_toArray, List.append_toArray, List.nil_append, List.cons_append]
  apply wpS_seq
  apply wpS_region
  simp [wpOpsS, go_sem, recoverD, hu, Exit.thenS]
  apply wpS_of_wp
  go_wp2
  exact ⟨rfl, _, by cases c₀; simp_all, .tuple #[], results_none rfl _ _ _, rfl, rfl, rfl⟩

set_option maxHeartbeats 1000000 in
theorem decodeLight_gen (F G : FuncId) (v : Value) (l : List UInt8) (w : World) (Good : List Value → World → Prop) (rest : RS) (ok : Bool) (hv : RdB w v l) (hl : l.length ≤ 100000000000)
    (hF : ∀ args w, (callFunc F args).run Tryd.prog w = .ok (.enter F args) w) (hG : ∀ args w, (callFunc G args).run Tryd.prog w = .ok (.enter G args) w)
    (HF : Takes F 200 w l Good rest) (HG : ∀ cs w1, Good cs w1 → Calls Tryd.prog G #[.agg cs.toArray] w1 (RetB ok w1)) (HK : Stays (w.heap.size + 2) Good) :
    Calls Tryd.prog 90 #[v, .func (.func F) #[] #[], .func (.func G) #[] #[]] w (DecPost Good (decide (rest = some []) && ok) ZLight w) := by
  have hmf : ∀ (fn : Fn) (first cap : Array Value) (w : World), (Instr.makeFunc fn first cap).run Tryd.prog w = .ok (.func fn first cap) w := fun _ _ _ _ => rfl
  have Hv := Lib.hid hv; have Hl := Lib.hid hl; have HHF := Lib.hid HF; have HHG := Lib.hid HG; have HHK := Lib.hid HK
  clear hv hl HF HG HK
  go_enter_defers Tryd.func90, Tryd.ntmps90
  go_wp2_with (refine wpList_alloc_as rfl 71 rfl ZLight ZLight_info ?_)
  intro W1 b1 g1 s1
  have B1 := Lib.hid b1; have G1 := Lib.hid g1; clear b1 g1
  go_wp2_with (refine wpList_alloc_as rfl 31 rfl [.int .i64 0] (by kernel_rfl) ?_)
  intro W2 b2 g2 s2
  have B2 := Lib.hid b2; have G2 := Lib.hid g2; have S2 := Lib.hid s2; clear b2 g2 s1
  go_wp2_with fail
  have gW := Lib.grownBy_trans G1.out G2.out
  refine (NewReader_any v l W2 (Hv.out.grown gW) Hl.out).mono ?_
  rintro e w3 ⟨p, rfl, r1, hp, r2⟩
  rw [s2] at hp
  have R1 := Lib.hid r1; have R2 := Lib.hid r2; have Hp := Lib.hid hp; have GW := Lib.hid gW
  clear r1 r2 hp gW s2
  go_wp2_with fail
  refine (HHF.out p w3 R1.out Hp.out).mono ?_
  rintro e w4 ⟨cs, rfl, gd, hn, h1, r3, gr⟩
  have hlt0 : w.heap.size + 2 ≤ W2.heap.size := by rw [S2.out]; omega
  have b4 : Blk w4 w.heap.size ZLight 71 := (((B1.out.grown G2.out (by simp)).below R2.out (by have := hlt0; omega)).grown gr (by have := Hp.out; simp; omega))
  have e4 : One w4 (w.heap.size + 1) (.int .i64 0) := (((One.of_blk B2.out).below R2.out (by have := hlt0; omega)).grown gr (by have := Hp.out; simp; omega))
  have bel4 : Below w.heap.size w w4 := by
    have q1 : Below w.heap.size w W2 := ⟨GW.out.os, GW.out.tape, GW.out.output, GW.out.size, fun k hk => GW.out.block k hk (by simp)⟩
    have q2 := q1.trans (R2.out.mono (by omega))
    exact q2.trans ⟨gr.os, gr.tape, gr.output, gr.size, fun k hk => gr.block k (by have := q2.size; omega) (by have := Hp.out; simp; omega)⟩
  have GD := Lib.hid gd; have Hn := Lib.hid hn; have H1 := Lib.hid h1; have R3 := Lib.hid r3; have B4 := Lib.hid b4; have E4 := Lib.hid e4; have Bel4 := Lib.hid bel4
  clear gd hn h1 r3 gr hlt0 b4 e4 bel4
  go_wp2_with (refine wpList_store_whole rfl 71 _ _ rfl w.heap.size rfl cs ZLight 71 rfl B4.out (by rw [Hn.out, ZLight_length]) H1.out (sizeLight _ Hn.out) ?_)
  intro w5 g5 s5 b5
  have r5 := R3.out.e.grown g5 (by have := Hp.out; simp; omega)
  have e5 := E4.out.grown g5 (by simp)
  have gd5 := HHK.out.grown GD.out g5 (by omega)
  have bel5 : Below w.heap.size w w5 := Bel4.out.trans ⟨g5.os, g5.tape, g5.output, g5.size, fun k hk => g5.block k (by have := Bel4.out.size; omega) (by simp; omega)⟩
  have R5 := Lib.hid r5; have E5 := Lib.hid e5; have GD5 := Lib.hid gd5; have B5 := Lib.hid b5; have Bel5 := Lib.hid bel5
  clear g5 s5 b5 r5 e5 gd5 bel5
  go_wp2_with fail
  refine (REnd p rest w5 R5.out).mono ?_
  rintro e w' ⟨rfl, rfl⟩
  by_cases hrest : rest = some []
  · subst hrest
    have q0 : (rdEnd (some []) == 0) = true := rfl
    go_wp2_with (first | (go_at_call 107; refine (must_yes _).mono ?_; rintro e w' ⟨rfl, rfl⟩) | refine wpList_load_part rfl 71 _ rfl w.heap.size 0 rfl cs _ B5.out.row Tryd.underlying71 rfl (sizeLight _ Hn.out) ?_)
    refine (HHG.out cs w5 GD5.out).mono ?_
    rintro e w6 ⟨he, hb6⟩
    have bel6 := Bel5.out.trans (hb6.mono Bel5.out.size)
    have b6 := B5.out.below hb6 B5.out.lt
    have e6 := E5.out.below hb6 (World.block_lt_of_cell? w5 ⟨w.heap.size + 1, 0, none⟩ E5.out.1)
    have gd6 := HHK.out.below GD5.out hb6
    have B6 := Lib.hid b6; have E6 := Lib.hid e6; have GD6 := Lib.hid gd6; have Bel6 := Lib.hid bel6
    clear b6 e6 gd6 bel6 hb6
    cases ok with
    | true =>
      obtain rfl := he
      go_wp2_with (first | (refine wpList_load_part rfl 71 _ rfl w.heap.size 0 rfl cs _ B6.out.row Tryd.underlying71 rfl (sizeLight _ Hn.out) ?_) | (refine wpList_store_whole rfl 71 _ _ rfl w.heap.size rfl cs cs 71 rfl B6.out rfl H1.out (sizeLight _ Hn.out) ?_))
      intro w7 g7 s7 b7
      have e7 := E6.out.grown g7 (by simp)
      have gd7 := HHK.out.grown GD6.out g7 (by omega)
      have bel7 : Below w.heap.size w w7 := Bel6.out.trans ⟨g7.os, g7.tape, g7.output, g7.size, fun k hk => g7.block k (by have := Bel6.out.size; omega) (by simp; omega)⟩
      obtain ⟨c7, f7⟩ := id e7
      have E7 := Lib.hid e7; have GD7 := Lib.hid gd7; have Bel7 := Lib.hid bel7; have B7 := Lib.hid b7
      clear g7 s7 b7 e7 gd7 bel7
      go_wp2
      refine leaves_cons (f := 133) (args := #[.pointer (some ⟨w.heap.size, 0, none⟩), .pointer (some ⟨w.heap.size + 1, 0, none⟩)]) (by simp) (by simp [go_sem]) ?_
      refine (decCatchLight_idle _ _ _).mono ?_
      rintro e u' w'' ⟨rfl, rfl, rfl⟩
      have bf : Blk (w7.setCell ⟨w.heap.size + 1, 0, none⟩ (.int .i64 0)) w.heap.size cs 71 := (Below.heap_setCell w7 ⟨w.heap.size + 1, 0, none⟩ _ w.heap.size (by simp)).trans B7.out
      refine ⟨.tuple #[.agg cs.toArray, .int .i64 0], results_two rfl _ _ ⟨w.heap.size, 0, none⟩ ⟨w.heap.size + 1, 0, none⟩ _ _ rfl rfl (run_loadVar_part _ _ _ 71 cs _ bf.row Tryd.underlying71 rfl (sizeLight _ Hn.out)) (run_loadVar_plain _ _ _ _ _ Tryd.underlying31 rfl (E7.out.set _).1), ?_⟩
      exact ⟨Bel7.out.setCell (by simp) _, cs, rfl, HHK.out.grown GD7.out (Lib.grownBy_setCell w7 (w.heap.size + 1) 0 _) (by omega)⟩
    | false =>
      obtain rfl := he
      refine leaves_cons (f := 133) (args := #[.pointer (some ⟨w.heap.size, 0, none⟩), .pointer (some ⟨w.heap.size + 1, 0, none⟩)]) (by simp) (by simp [go_sem]) ?_
      refine (decCatchLight_panicking w.heap.size cs _ _ B6.out Hn.out E6.out).mono ?_
      rintro e u' w'' ⟨rfl, rfl, k1, k2, k3⟩
      refine ⟨.tuple #[.agg ZLight.toArray, .int .i64 61], results_two rfl _ _ ⟨w.heap.size, 0, none⟩ ⟨w.heap.size + 1, 0, none⟩ _ _ rfl rfl (run_loadVar_part _ _ _ 71 ZLight _ k1.row Tryd.underlying71 rfl (sizeLight _ ZLight_length)) (run_loadVar_plain _ _ _ _ _ Tryd.underlying31 rfl k2.1), ?_⟩
      exact ⟨Bel6.out.trans k3, by simp⟩
  · have q0 := rdEnd_nz hrest
    go_wp2_with (go_at_call 107; refine (must_no _).mono ?_; rintro e w' ⟨rfl, rfl⟩)
    refine leaves_cons (f := 133) (args := #[.pointer (some ⟨w.heap.size, 0, none⟩), .pointer (some ⟨w.heap.size + 1, 0, none⟩)]) (by simp) (by simp [go_sem]) ?_
    refine (decCatchLight_panicking w.heap.size cs _ _ B5.out Hn.out E5.out).mono ?_
    rintro e u' w'' ⟨rfl, rfl, k1, k2, k3⟩
    refine ⟨.tuple #[.agg ZLight.toArray, .int .i64 61], results_two rfl _ _ ⟨w.heap.size, 0, none⟩ ⟨w.heap.size + 1, 0, none⟩ _ _ rfl rfl (run_loadVar_part _ _ _ 71 ZLight _ k1.row Tryd.underlying71 rfl (sizeLight _ ZLight_length)) (run_loadVar_plain _ _ _ _ _ Tryd.underlying31 rfl k2.1), ?_⟩
    exact ⟨Bel5.out.trans k3, by simp [hrest]⟩

set_option maxHeartbeats 1000000 in
theorem decodeLight_not (F G : FuncId) (v : Value) (l : List UInt8) (w : World) (Good : List Value → World → Prop) (hv : RdB w v l) (hl : l.length ≤ 100000000000)
    (hF : ∀ args w, (callFunc F args).run Tryd.prog w = .ok (.enter F args) w) (hG : ∀ args w, (callFunc G args).run Tryd.prog w = .ok (.enter G args) w)
    (HF : TakesNot F w l) :
    Calls Tryd.prog 90 #[v, .func (.func F) #[] #[], .func (.func G) #[] #[]] w (DecPost Good false ZLight w) := by
  have hmf : ∀ (fn : Fn) (first cap : Array Value) (w : World), (Instr.makeFunc fn first cap).run Tryd.prog w = .ok (.func fn first cap) w := fun _ _ _ _ => rfl
  have Hv := Lib.hid hv; have Hl := Lib.hid hl; have HHF := Lib.hid HF
  clear hv hl HF
  go_enter_defers Tryd.func90, Tryd.ntmps90
  go_wp2_with (refine wpList_alloc_as rfl 71 rfl ZLight ZLight_info ?_)
  intro W1 b1 g1 s1
  have B1 := Lib.hid b1; have G1 := Lib.hid g1; clear b1 g1
  go_wp2_with (refine wpList_alloc_as rfl 31 rfl [.int .i64 0] (by kernel_rfl) ?_)
  intro W2 b2 g2 s2
  have B2 := Lib.hid b2; have G2 := Lib.hid g2; have S2 := Lib.hid s2; clear b2 g2 s1
  go_wp2_with fail
  have gW := Lib.grownBy_trans G1.out G2.out
  refine (NewReader_any v l W2 (Hv.out.grown gW) Hl.out).mono ?_
  rintro e w3 ⟨p, rfl, r1, hp, r2⟩
  rw [s2] at hp
  have R1 := Lib.hid r1; have R2 := Lib.hid r2; have Hp := Lib.hid hp; have GW := Lib.hid gW
  clear r1 r2 hp gW s2
  go_wp2_with fail
  refine (HHF.out p w3 R1.out Hp.out).mono ?_
  rintro e w4 ⟨rfl, gr⟩
  have hlt0 : w.heap.size + 2 ≤ W2.heap.size := by rw [S2.out]; omega
  have b4 : Blk w4 w.heap.size ZLight 71 := (((B1.out.grown G2.out (by simp)).below R2.out (by have := hlt0; omega)).grown gr (by have := Hp.out; simp; omega))
  have e4 : One w4 (w.heap.size + 1) (.int .i64 0) := (((One.of_blk B2.out).below R2.out (by have := hlt0; omega)).grown gr (by have := Hp.out; simp; omega))
  have bel4 : Below w.heap.size w w4 := by
    have q1 : Below w.heap.size w W2 := ⟨GW.out.os, GW.out.tape, GW.out.output, GW.out.size, fun k hk => GW.out.block k hk (by simp)⟩
    have q2 := q1.trans (R2.out.mono (by omega))
    exact q2.trans ⟨gr.os, gr.tape, gr.output, gr.size, fun k hk => gr.block k (by have := q2.size; omega) (by have := Hp.out; simp; omega)⟩
  refine leaves_cons (f := 133) (args := #[.pointer (some ⟨w.heap.size, 0, none⟩), .pointer (some ⟨w.heap.size + 1, 0, none⟩)]) (by simp) (by simp [go_sem]) ?_
  refine (decCatchLight_panicking w.heap.size ZLight _ _ b4 ZLight_length e4).mono ?_
  rintro e u' w'' ⟨rfl, rfl, k1, k2, k3⟩
  refine ⟨.tuple #[.agg ZLight.toArray, .int .i64 61], results_two rfl _ _ ⟨w.heap.size, 0, none⟩ ⟨w.heap.size + 1, 0, none⟩ _ _ rfl rfl (run_loadVar_part _ _ _ 71 ZLight _ k1.row Tryd.underlying71 rfl (sizeLight _ ZLight_length)) (run_loadVar_plain _ _ _ _ _ Tryd.underlying31 rfl k2.1), ?_⟩
  exact ⟨bel4.trans k3, by simp⟩


end Go.Proofs.YtaffpgafbjhahaaDoor
