/- Walks: forms.decode at []api.Validator. Walks: forms.decode at api.Commit. Walks: forms.DecodeSet, DecodeCommit. -/
import Derived.Test.YtaffpgafbjhahaaGreatDoorDecode
import Derived.Test.YtaffpgafbjhahaaGreatDoorBuild
import Derived.Deep.Cut
import Derived.Deep.CutRange
import Derived.Test.YtaffpgafbjhahaaGreatDoorDecL
import Derived.Test.YtaffpgafbjhahaaGreatDoorDec2Light
namespace Go.Proofs.YtaffpgafbjhahaaGreatDoor
open Go.RowKit
set_option maxRecDepth 100000

/-- what a decoding of a one-cell thing answers -/
def DecPostV (Good : Value → World → Prop) (b : Bool) (w : World) (e : Ending) (w' : World) : Prop :=
  Below w.heap.size w w' ∧ (if b then ∃ v, e = .returned (.tuple #[v, .int .i64 0]) ∧ Good v w' else e = .returned (.tuple #[.slice none 0 0, .int .i64 61]))
theorem DecPostV.t {Good : Value → World → Prop} {w w' : World} {e : Ending} (h : DecPostV Good true w e w') : Below w.heap.size w w' ∧ ∃ v, e = .returned (.tuple #[v, .int .i64 0]) ∧ Good v w' := ⟨h.1, h.2⟩
theorem DecPostV.f {Good : Value → World → Prop} {w w' : World} {e : Ending} (h : DecPostV Good false w e w') : Below w.heap.size w w' ∧ e = .returned (.tuple #[.slice none 0 0, .int .i64 61]) := ⟨h.1, h.2⟩
def TakesV (F : FuncId) (w : World) (l : List UInt8) (Good : Value → World → Prop) (rest : RS) : Prop :=
  ∀ p w1, IsR w1 p (some l) → w.heap.size + 2 ≤ p → Calls Tryz.prog F #[.pointer (some ⟨p, 0, none⟩)] w1 fun e w2 =>
    ∃ a n k, e = .returned (.slice a n k) ∧ Good (.slice a n k) w2 ∧ IsR w2 p rest ∧ w1.grownBy w2 (some p)
def StaysV (B : Nat) (Good : Value → World → Prop) : Prop :=
  ∀ v w1 w2, Good v w1 → (∀ k, B ≤ k → k < w1.heap.size → w2.heap[k]? = w1.heap[k]?) → w1.heap.size ≤ w2.heap.size → Good v w2
theorem StaysV.below {B : Nat} {Good : Value → World → Prop} (h : StaysV B Good) {v : Value} {w1 w2 : World} (hg : Good v w1) (hb : Below w1.heap.size w1 w2) : Good v w2 :=
  h v w1 w2 hg (fun k _ hk => hb.block k hk) hb.size
theorem StaysV.grown {B : Nat} {Good : Value → World → Prop} (h : StaysV B Good) {v : Value} {w1 w2 : World} (hg : Good v w1) {m : Nat} (hb : w1.grownBy w2 (some m)) (hm : m < B) : Good v w2 :=
  h v w1 w2 hg (fun k hk hk2 => hb.block k hk2 (by simp; omega)) hb.size

set_option maxHeartbeats 400000 in
theorem decCatchSet_panicking (m : Nat) (u x : Value) (w : World) (h1 : Blk w m [u] 24) (h2 : One w (m + 1) x) :
    CallsD Tryz.prog 45 #[.pointer (some ⟨m, 0, none⟩), .pointer (some ⟨m + 1, 0, none⟩)] (.panicking wrongP) w fun e u' w' =>
      e = .returned (.tuple #[]) ∧ u' = .panicking [{ v := .iface 124 (.agg #[]), recovered := true }] ∧ Blk w' m [.slice none 0 0] 24 ∧ One w' (m + 1) (.int .i64 61) ∧ Below m w w' := by
  have H1 := Lib.hid h1; have H2 := Lib.hid h2
  clear h1 h2
  refine callsD_of_wpS Tryz.func45 rfl fun c₀ cs0 hu => ?_
  simp only [Tryz.ntmps45, List.size_toArray, List.length_cons, List.length_nil, Nat.reduceAdd, Nat.reduceSub, Array.replicate_succ,
     Array.replicate_zero, List.push_toArray, List.append_toArray, List.nil_append, List.cons_append]
  apply wpS_seq
  apply wpS_region
  simp [wpOpsS, go_sem, recoverD, hu, wrongP, Exit.thenS]
  apply wpS_of_wp
  go_wp2_with fail
  refine (caught_wrong _).mono ?_; rintro e w1 ⟨rfl, hb⟩
  have b1 := H1.out.below hb H1.out.lt
  have b2 := H2.out.below hb (World.block_lt_of_cell? w ⟨m + 1, 0, none⟩ H2.out.1)
  have B1 := Lib.hid b1; have B2 := Lib.hid b2; have Hb := Lib.hid hb
  clear b1 b2 hb
  go_wp2_with (refine wpList_store_cell rfl 24 _ _ rfl m 0 rfl (.slice none 0 0) rfl rfl [u] 24 B1.out (by simp) (by kernel_rfl) ?_)
  intro w3 k1 k2 k3
  have d2 := B2.out.grown k1 (by simp)
  obtain ⟨c2, f2⟩ := id d2
  have L1 := Lib.hid k1; have L3 := Lib.hid k3; have D2 := Lib.hid d2; clear k1 k2 k3 d2
  go_wp2
  have hm1 := H1.out.lt
  have hm2 := World.block_lt_of_cell? w ⟨m + 1, 0, none⟩ H2.out.1
  have hbel : Below m w w3 := (Hb.out.mono (Nat.le_of_lt hm1)) |>.trans
    ⟨L1.out.os, L1.out.tape, L1.out.output, L1.out.size, fun k hk => L1.out.block k (by have := Hb.out.size; omega) (by simp; omega)⟩
  exact ⟨rfl, _, rfl, .tuple #[], results_none rfl _ _ _, rfl, rfl, (Below.heap_setCell w3 ⟨m + 1, 0, none⟩ _ m (by simp)).trans L3.out, D2.out.set _, hbel.setCell (by simp) _⟩

set_option maxHeartbeats 400000 in
theorem decCatchSet_idle (p q : Addr) (w : World) :
    CallsD Tryz.prog 45 #[.pointer (some p), .pointer (some q)] .returning w fun e u' w' =>
      e = .returned (.tuple #[]) ∧ u' = .returning ∧ w' = w := by
  refine callsD_of_wpS Tryz.func45 rfl fun c₀ cs hu => ?_
  simp only [Tryz.ntmps45, List.size_toArray, List.length_cons, List.length_nil, Nat.reduceAdd, Nat.reduceSub, Array.replicate_succ,
     Array.replicate_zero, List.push_toArray, List.append_toArray, List.nil_append, List.cons_append]
  apply wpS_seq
  apply wpS_region
  simp [wpOpsS, go_sem, recoverD, hu, Exit.thenS]
  apply wpS_of_wp
  go_wp2
  exact ⟨rfl, _, by cases c₀; simp_all, .tuple #[], results_none rfl _ _ _, rfl, rfl, rfl⟩

set_option maxHeartbeats 1000000 in
theorem decodeSet_gen (F G : FuncId) (v : Value) (l : List UInt8) (w : World) (Good : Value → World → Prop) (rest : RS) (hv : RdB w v l) (hl : l.length ≤ 100000000000)
    (hF : ∀ args w, (callFunc F args).run Tryz.prog w = .ok (.enter F args) w) (hG : ∀ args w, (callFunc G args).run Tryz.prog w = .ok (.enter G args) w)
    (HF : TakesV F w l Good rest) (HG : ∀ v w1, Good v w1 → Calls Tryz.prog G #[v] w1 (RetB true w1)) (HK : StaysV (w.heap.size + 2) Good) :
    Calls Tryz.prog 17 #[v, .func (.func F) #[] #[], .func (.func G) #[] #[]] w (DecPostV Good (decide (rest = some [])) w) := by
  have hmf : ∀ (fn : Fn) (first cap : Array Value) (w : World), (Instr.makeFunc fn first cap).run Tryz.prog w = .ok (.func fn first cap) w := fun _ _ _ _ => rfl
  have Hv := Lib.hid hv; have Hl := Lib.hid hl; have HHF := Lib.hid HF; have HHG := Lib.hid HG; have HHK := Lib.hid HK
  clear hv hl HF HG HK
  go_enter_defers Tryz.func17, Tryz.ntmps17
  go_wp2_with (refine wpList_alloc_as rfl 24 rfl [.slice none 0 0] (by kernel_rfl) ?_)
  intro W1 b1 g1 s1
  have B1 := Lib.hid b1; have G1 := Lib.hid g1; clear b1 g1
  go_wp2_with (refine wpList_alloc_as rfl 25 rfl [.int .i64 0] (by kernel_rfl) ?_)
  intro W2 b2 g2 s2
  have B2 := Lib.hid b2; have G2 := Lib.hid g2; have S2 := Lib.hid s2; clear b2 g2 s1
  go_wp2_with fail
  have gW := Lib.grownBy_trans G1.out G2.out
  refine (NewReader_any v l W2 (Hv.out.grown gW) Hl.out).mono ?_
  rintro e w3 ⟨p, rfl, r1, hp, r2⟩
  rw [s2] at hp
  have R1 := Lib.hid r1; have R2 := Lib.hid r2; have Hp := Lib.hid hp; have GW := Lib.hid gW
  clear r1 r2 hp gW s2
  go_wp2_with fail
  refine (HHF.out p w3 R1.out Hp.out).mono ?_
  rintro e w4 ⟨sa, sn, sc, rfl, gd, r3, gr⟩
  have hlt0 : w.heap.size + 2 ≤ W2.heap.size := by rw [S2.out]; omega
  have b4 : Blk w4 w.heap.size [.slice none 0 0] 24 := (((B1.out.grown G2.out (by simp)).below R2.out (by have := hlt0; omega)).grown gr (by have := Hp.out; simp; omega))
  have e4 : One w4 (w.heap.size + 1) (.int .i64 0) := (((One.of_blk B2.out).below R2.out (by have := hlt0; omega)).grown gr (by have := Hp.out; simp; omega))
  have bel4 : Below w.heap.size w w4 := by
    have q1 : Below w.heap.size w W2 := ⟨GW.out.os, GW.out.tape, GW.out.output, GW.out.size, fun k hk => GW.out.block k hk (by simp)⟩
    have q2 := q1.trans (R2.out.mono (by omega))
    exact q2.trans ⟨gr.os, gr.tape, gr.output, gr.size, fun k hk => gr.block k (by have := q2.size; omega) (by have := Hp.out; simp; omega)⟩
  have GD := Lib.hid gd; have R3 := Lib.hid r3; have B4 := Lib.hid b4; have E4 := Lib.hid e4; have Bel4 := Lib.hid bel4
  clear gd r3 gr hlt0 b4 e4 bel4
  go_wp2_with (refine wpList_store_cell rfl 24 _ _ rfl w.heap.size 0 rfl (.slice sa sn sc) rfl rfl [.slice none 0 0] 24 B4.out (by simp) (by kernel_rfl) ?_)
  intro w5 g5 s5 b5
  have r5 := R3.out.e.grown g5 (by have := Hp.out; simp; omega)
  have e5 := E4.out.grown g5 (by simp)
  have gd5 := HHK.out.grown GD.out g5 (by omega)
  have bel5 : Below w.heap.size w w5 := Bel4.out.trans ⟨g5.os, g5.tape, g5.output, g5.size, fun k hk => g5.block k (by have := Bel4.out.size; omega) (by simp; omega)⟩
  have R5 := Lib.hid r5; have E5 := Lib.hid e5; have GD5 := Lib.hid gd5; have B5 := Lib.hid b5; have Bel5 := Lib.hid bel5
  clear g5 s5 b5 r5 e5 gd5 bel5
  go_wp2_with fail
  refine (REnd p rest w5 R5.out).mono ?_
  rintro e w' ⟨rfl, rfl⟩
  by_cases hrest : rest = some []
  · subst hrest
    have q0 : (rdEnd (some []) == 0) = true := rfl
    have c5 : w5.cell? ⟨w.heap.size, 0, none⟩ = some (.slice sa sn sc) := B5.out.row 0 _ rfl
    go_wp2_with (go_at_call 48; refine (must_yes _).mono ?_; rintro e w' ⟨rfl, rfl⟩)
    refine (HHG.out _ w5 GD5.out).mono ?_
    rintro e w6 ⟨he, hb6⟩
    have bel6 := Bel5.out.trans (hb6.mono Bel5.out.size)
    have b6 := B5.out.below hb6 B5.out.lt
    have e6 := E5.out.below hb6 (World.block_lt_of_cell? w5 ⟨w.heap.size + 1, 0, none⟩ E5.out.1)
    have gd6 := HHK.out.below GD5.out hb6
    have B6 := Lib.hid b6; have E6 := Lib.hid e6; have GD6 := Lib.hid gd6; have Bel6 := Lib.hid bel6
    clear b6 e6 gd6 bel6 hb6 c5
    obtain rfl := he
    have c6 : w6.cell? ⟨w.heap.size, 0, none⟩ = some (.slice sa sn sc) := B6.out.row 0 _ rfl
    go_wp2_with (refine wpList_store_cell rfl 24 _ _ rfl w.heap.size 0 rfl (.slice sa sn sc) rfl rfl [.slice sa sn sc] 24 B6.out (by simp) (by kernel_rfl) ?_)
    intro w7 g7 s7 b7
    have e7 := E6.out.grown g7 (by simp)
    have gd7 := HHK.out.grown GD6.out g7 (by omega)
    have bel7 : Below w.heap.size w w7 := Bel6.out.trans ⟨g7.os, g7.tape, g7.output, g7.size, fun k hk => g7.block k (by have := Bel6.out.size; omega) (by simp; omega)⟩
    obtain ⟨c7, f7⟩ := id e7
    have E7 := Lib.hid e7; have GD7 := Lib.hid gd7; have Bel7 := Lib.hid bel7; have B7 := Lib.hid b7
    clear g7 s7 b7 e7 gd7 bel7 c6
    go_wp2
    refine leaves_cons (f := 45) (args := #[.pointer (some ⟨w.heap.size, 0, none⟩), .pointer (some ⟨w.heap.size + 1, 0, none⟩)]) (by simp) (by simp [go_sem]) ?_
    refine (decCatchSet_idle _ _ _).mono ?_
    rintro e u' w'' ⟨rfl, rfl, rfl⟩
    have bf : Blk (w7.setCell ⟨w.heap.size + 1, 0, none⟩ (.int .i64 0)) w.heap.size [.slice sa sn sc] 24 := (Below.heap_setCell w7 ⟨w.heap.size + 1, 0, none⟩ _ w.heap.size (by simp)).trans B7.out
    refine ⟨.tuple #[.slice sa sn sc, .int .i64 0], results_two rfl _ _ ⟨w.heap.size, 0, none⟩ ⟨w.heap.size + 1, 0, none⟩ _ _ rfl rfl (run_loadVar_plain _ _ _ _ _ Tryz.underlying24 rfl (bf.row 0 _ rfl)) (run_loadVar_plain _ _ _ _ _ Tryz.underlying25 rfl (E7.out.set _).1), ?_⟩
    exact ⟨Bel7.out.setCell (by simp) _, .slice sa sn sc, rfl, HHK.out.grown GD7.out (Lib.grownBy_setCell w7 (w.heap.size + 1) 0 _) (by omega)⟩
  · have q0 := rdEnd_nz hrest
    go_wp2_with (go_at_call 48; refine (must_no _).mono ?_; rintro e w' ⟨rfl, rfl⟩)
    refine leaves_cons (f := 45) (args := #[.pointer (some ⟨w.heap.size, 0, none⟩), .pointer (some ⟨w.heap.size + 1, 0, none⟩)]) (by simp) (by simp [go_sem]) ?_
    refine (decCatchSet_panicking w.heap.size _ _ _ B5.out E5.out).mono ?_
    rintro e u' w'' ⟨rfl, rfl, k1, k2, k3⟩
    refine ⟨.tuple #[.slice none 0 0, .int .i64 61], results_two rfl _ _ ⟨w.heap.size, 0, none⟩ ⟨w.heap.size + 1, 0, none⟩ _ _ rfl rfl (run_loadVar_plain _ _ _ _ _ Tryz.underlying24 rfl (k1.row 0 _ rfl)) (run_loadVar_plain _ _ _ _ _ Tryz.underlying25 rfl k2.1), ?_⟩
    exact ⟨Bel5.out.trans k3, by simp [hrest]⟩

set_option maxHeartbeats 1000000 in
theorem decodeSet_not (F G : FuncId) (v : Value) (l : List UInt8) (w : World) (Good : Value → World → Prop) (hv : RdB w v l) (hl : l.length ≤ 100000000000)
    (hF : ∀ args w, (callFunc F args).run Tryz.prog w = .ok (.enter F args) w) (hG : ∀ args w, (callFunc G args).run Tryz.prog w = .ok (.enter G args) w)
    (HF : TakesNot F w l) :
    Calls Tryz.prog 17 #[v, .func (.func F) #[] #[], .func (.func G) #[] #[]] w (DecPostV Good false w) := by
  have hmf : ∀ (fn : Fn) (first cap : Array Value) (w : World), (Instr.makeFunc fn first cap).run Tryz.prog w = .ok (.func fn first cap) w := fun _ _ _ _ => rfl
  have Hv := Lib.hid hv; have Hl := Lib.hid hl; have HHF := Lib.hid HF
  clear hv hl HF
  go_enter_defers Tryz.func17, Tryz.ntmps17
  go_wp2_with (refine wpList_alloc_as rfl 24 rfl [.slice none 0 0] (by kernel_rfl) ?_)
  intro W1 b1 g1 s1
  have B1 := Lib.hid b1; have G1 := Lib.hid g1; clear b1 g1
  go_wp2_with (refine wpList_alloc_as rfl 25 rfl [.int .i64 0] (by kernel_rfl) ?_)
  intro W2 b2 g2 s2
  have B2 := Lib.hid b2; have G2 := Lib.hid g2; have S2 := Lib.hid s2; clear b2 g2 s1
  go_wp2_with fail
  have gW := Lib.grownBy_trans G1.out G2.out
  refine (NewReader_any v l W2 (Hv.out.grown gW) Hl.out).mono ?_
  rintro e w3 ⟨p, rfl, r1, hp, r2⟩
  rw [s2] at hp
  have R1 := Lib.hid r1; have R2 := Lib.hid r2; have Hp := Lib.hid hp; have GW := Lib.hid gW
  clear r1 r2 hp gW s2
  go_wp2_with fail
  refine (HHF.out p w3 R1.out Hp.out).mono ?_
  rintro e w4 ⟨rfl, gr⟩
  have hlt0 : w.heap.size + 2 ≤ W2.heap.size := by rw [S2.out]; omega
  have b4 : Blk w4 w.heap.size [.slice none 0 0] 24 := (((B1.out.grown G2.out (by simp)).below R2.out (by have := hlt0; omega)).grown gr (by have := Hp.out; simp; omega))
  have e4 : One w4 (w.heap.size + 1) (.int .i64 0) := (((One.of_blk B2.out).below R2.out (by have := hlt0; omega)).grown gr (by have := Hp.out; simp; omega))
  have bel4 : Below w.heap.size w w4 := by
    have q1 : Below w.heap.size w W2 := ⟨GW.out.os, GW.out.tape, GW.out.output, GW.out.size, fun k hk => GW.out.block k hk (by simp)⟩
    have q2 := q1.trans (R2.out.mono (by omega))
    exact q2.trans ⟨gr.os, gr.tape, gr.output, gr.size, fun k hk => gr.block k (by have := q2.size; omega) (by have := Hp.out; simp; omega)⟩
  refine leaves_cons (f := 45) (args := #[.pointer (some ⟨w.heap.size, 0, none⟩), .pointer (some ⟨w.heap.size + 1, 0, none⟩)]) (by simp) (by simp [go_sem]) ?_
  refine (decCatchSet_panicking w.heap.size _ _ _ b4 e4).mono ?_
  rintro e u' w'' ⟨rfl, rfl, k1, k2, k3⟩
  refine ⟨.tuple #[.slice none 0 0, .int .i64 61], results_two rfl _ _ ⟨w.heap.size, 0, none⟩ ⟨w.heap.size + 1, 0, none⟩ _ _ rfl rfl (run_loadVar_plain _ _ _ _ _ Tryz.underlying24 rfl (k1.row 0 _ rfl)) (run_loadVar_plain _ _ _ _ _ Tryz.underlying25 rfl k2.1), ?_⟩
  exact ⟨bel4.trans k3, by simp⟩

/-- the zero value's cells -/
theorem ZCommit_length : ZCommit.length = 35 := by rfl
theorem sizCommit (cs : List Value) (h : cs.length = 35) : (Tryz.prog.info? 32).map (·.size) = some cs.length := by rw [h]; kernel_rfl

set_option maxHeartbeats 400000 in
theorem decCatchCommit_panicking (m : Nat) (cs : List Value) (x : Value) (w : World) (h1 : Blk w m cs 32) (hn : cs.length = 35) (h2 : One w (m + 1) x) :
    CallsD Tryz.prog 55 #[.pointer (some ⟨m, 0, none⟩), .pointer (some ⟨m + 1, 0, none⟩)] (.panicking wrongP) w fun e u' w' =>
      e = .returned (.tuple #[]) ∧ u' = .panicking [{ v := .iface 124 (.agg #[]), recovered := true }] ∧ Blk w' m ZCommit 32 ∧ One w' (m + 1) (.int .i64 61) ∧ Below m w w' := by
  have H1 := Lib.hid h1; have H2 := Lib.hid h2; have Hn := Lib.hid hn
  clear h1 h2 hn
  refine callsD_of_wpS Tryz.func55 rfl fun c₀ cs0 hu => ?_
  simp only [Tryz.ntmps55, List.size_toArray, List.length_cons, List.length_nil, Nat.reduceAdd, Nat.reduceSub, Array.replicate_succ,
     Array.replicate_zero, List.push_toArray, List.append_toArray, List.nil_append, List.cons_append]
  apply wpS_seq
  apply wpS_region
  simp [wpOpsS, go_sem, recoverD, hu, wrongP, Exit.thenS]
  apply wpS_of_wp
  go_wp2_with fail
  refine (caught_wrong _).mono ?_; rintro e w1 ⟨rfl, hb⟩
  have b1 := H1.out.below hb H1.out.lt
  have b2 := H2.out.below hb (World.block_lt_of_cell? w ⟨m + 1, 0, none⟩ H2.out.1)
  have B1 := Lib.hid b1; have B2 := Lib.hid b2; have Hb := Lib.hid hb
  clear b1 b2 hb
  go_wp2_with (refine wpList_alloc_as rfl 32 rfl ZCommit ZCommit_info ?_)
  intro w2 k1 k2 k3
  have K1 := Lib.hid k1; have K2 := Lib.hid k2; clear k1 k2 k3
  go_wp2_with (first | (refine wpList_load_part rfl 32 _ rfl w1.heap.size 0 rfl ZCommit _ K1.out.row Tryz.underlying32 rfl (sizCommit _ ZCommit_length) ?_) | refine wpList_store_whole rfl 32 _ _ rfl m rfl ZCommit cs 32 rfl (B1.out.grown K2.out (by simp)) (by rw [Hn.out, ZCommit_length]) ZCommit_one (sizCommit _ ZCommit_length) ?_)
  intro w3 k1 k2 k3
  have d2 := (B2.out.grown K2.out (by simp)).grown k1 (by simp)
  obtain ⟨c2, f2⟩ := id d2
  have L1 := Lib.hid k1; have L3 := Lib.hid k3; have D2 := Lib.hid d2; clear k1 k2 k3 d2
  go_wp2
  have hm1 := H1.out.lt
  have hm2 := World.block_lt_of_cell? w ⟨m + 1, 0, none⟩ H2.out.1
  have hbel : Below m w w3 := (Hb.out.mono (Nat.le_of_lt hm1)).trans ⟨K2.out.os, K2.out.tape, K2.out.output, K2.out.size, fun k hk => K2.out.block k (by have := Hb.out.size; omega) (by simp)⟩ |>.trans
    ⟨L1.out.os, L1.out.tape, L1.out.output, L1.out.size, fun k hk => L1.out.block k (by have := Hb.out.size; have := K2.out.size; omega) (by simp; omega)⟩
  exact ⟨rfl, _, rfl, .tuple #[], results_none rfl _ _ _, rfl, rfl, (Below.heap_setCell w3 ⟨m + 1, 0, none⟩ _ m (by simp)).trans L3.out, D2.out.set _, hbel.setCell (by simp) _⟩

set_option maxHeartbeats 400000 in
theorem decCatchCommit_idle (p q : Addr) (w : World) :
    CallsD Tryz.prog 55 #[.pointer (some p), .pointer (some q)] .returning w fun e u' w' =>
      e = .returned (.tuple #[]) ∧ u' = .returning ∧ w' = w := by
  refine callsD_of_wpS Tryz.func55 rfl fun c₀ cs hu => ?_
  simp only [Tryz.ntmps55, List.size_toArray, List.length_cons, List.length_nil, Nat.reduceAdd, Nat.reduceSub, Array.replicate_succ,
     Array.replicate_zero, List.push_toArray, List.append_toArray, List.nil_append, List.cons_append]
  apply wpS_seq
  apply wpS_region
  simp [wpOpsS, go_sem, recoverD, hu, Exit.thenS]
  apply wpS_of_wp
  go_wp2
  exact ⟨rfl, _, by cases c₀; simp_all, .tuple #[], results_none rfl _ _ _, rfl, rfl, rfl⟩

set_option maxHeartbeats 1000000 in
theorem decodeCommit_gen (F G : FuncId) (v : Value) (l : List UInt8) (w : World) (Good : List Value → World → Prop) (rest : RS) (ok : Bool) (hv : RdB w v l) (hl : l.length ≤ 100000000000)
    (hF : ∀ args w, (callFunc F args).run Tryz.prog w = .ok (.enter F args) w) (hG : ∀ args w, (callFunc G args).run Tryz.prog w = .ok (.enter G args) w)
    (HF : Takes F 35 w l Good rest) (HG : ∀ cs w1, Good cs w1 → Calls Tryz.prog G #[.agg cs.toArray] w1 (RetB ok w1)) (HK : Stays (w.heap.size + 2) Good) :
    Calls Tryz.prog 22 #[v, .func (.func F) #[] #[], .func (.func G) #[] #[]] w (DecPost Good (decide (rest = some []) && ok) ZCommit w) := by
  have hmf : ∀ (fn : Fn) (first cap : Array Value) (w : World), (Instr.makeFunc fn first cap).run Tryz.prog w = .ok (.func fn first cap) w := fun _ _ _ _ => rfl
  have Hv := Lib.hid hv; have Hl := Lib.hid hl; have HHF := Lib.hid HF; have HHG := Lib.hid HG; have HHK := Lib.hid HK
  clear hv hl HF HG HK
  go_enter_defers Tryz.func22, Tryz.ntmps22
  go_wp2_with (refine wpList_alloc_as rfl 32 rfl ZCommit ZCommit_info ?_)
  intro W1 b1 g1 s1
  have B1 := Lib.hid b1; have G1 := Lib.hid g1; clear b1 g1
  go_wp2_with (refine wpList_alloc_as rfl 25 rfl [.int .i64 0] (by kernel_rfl) ?_)
  intro W2 b2 g2 s2
  have B2 := Lib.hid b2; have G2 := Lib.hid g2; have S2 := Lib.hid s2; clear b2 g2 s1
  go_wp2_with fail
  have gW := Lib.grownBy_trans G1.out G2.out
  refine (NewReader_any v l W2 (Hv.out.grown gW) Hl.out).mono ?_
  rintro e w3 ⟨p, rfl, r1, hp, r2⟩
  rw [s2] at hp
  have R1 := Lib.hid r1; have R2 := Lib.hid r2; have Hp := Lib.hid hp; have GW := Lib.hid gW
  clear r1 r2 hp gW s2
  go_wp2_with fail
  refine (HHF.out p w3 R1.out Hp.out).mono ?_
  rintro e w4 ⟨cs, rfl, gd, hn, h1, r3, gr⟩
  have hlt0 : w.heap.size + 2 ≤ W2.heap.size := by rw [S2.out]; omega
  have b4 : Blk w4 w.heap.size ZCommit 32 := (((B1.out.grown G2.out (by simp)).below R2.out (by have := hlt0; omega)).grown gr (by have := Hp.out; simp; omega))
  have e4 : One w4 (w.heap.size + 1) (.int .i64 0) := (((One.of_blk B2.out).below R2.out (by have := hlt0; omega)).grown gr (by have := Hp.out; simp; omega))
  have bel4 : Below w.heap.size w w4 := by
    have q1 : Below w.heap.size w W2 := ⟨GW.out.os, GW.out.tape, GW.out.output, GW.out.size, fun k hk => GW.out.block k hk (by simp)⟩
    have q2 := q1.trans (R2.out.mono (by omega))
    exact q2.trans ⟨gr.os, gr.tape, gr.output, gr.size, fun k hk => gr.block k (by have := q2.size; omega) (by have := Hp.out; simp; omega)⟩
  have GD := Lib.hid gd; have Hn := Lib.hid hn; have H1 := Lib.hid h1; have R3 := Lib.hid r3; have B4 := Lib.hid b4; have E4 := Lib.hid e4; have Bel4 := Lib.hid bel4
  clear gd hn h1 r3 gr hlt0 b4 e4 bel4
  go_wp2_with (refine wpList_store_whole rfl 32 _ _ rfl w.heap.size rfl cs ZCommit 32 rfl B4.out (by rw [Hn.out, ZCommit_length]) H1.out (sizCommit _ Hn.out) ?_)
  intro w5 g5 s5 b5
  have r5 := R3.out.e.grown g5 (by have := Hp.out; simp; omega)
  have e5 := E4.out.grown g5 (by simp)
  have gd5 := HHK.out.grown GD.out g5 (by omega)
  have bel5 : Below w.heap.size w w5 := Bel4.out.trans ⟨g5.os, g5.tape, g5.output, g5.size, fun k hk => g5.block k (by have := Bel4.out.size; omega) (by simp; omega)⟩
  have R5 := Lib.hid r5; have E5 := Lib.hid e5; have GD5 := Lib.hid gd5; have B5 := Lib.hid b5; have Bel5 := Lib.hid bel5
  clear g5 s5 b5 r5 e5 gd5 bel5
  go_wp2_with fail
  refine (REnd p rest w5 R5.out).mono ?_
  rintro e w' ⟨rfl, rfl⟩
  by_cases hrest : rest = some []
  · subst hrest
    have q0 : (rdEnd (some []) == 0) = true := rfl
    go_wp2_with (first | (go_at_call 48; refine (must_yes _).mono ?_; rintro e w' ⟨rfl, rfl⟩) | refine wpList_load_part rfl 32 _ rfl w.heap.size 0 rfl cs _ B5.out.row Tryz.underlying32 rfl (sizCommit _ Hn.out) ?_)
    refine (HHG.out cs w5 GD5.out).mono ?_
    rintro e w6 ⟨he, hb6⟩
    have bel6 := Bel5.out.trans (hb6.mono Bel5.out.size)
    have b6 := B5.out.below hb6 B5.out.lt
    have e6 := E5.out.below hb6 (World.block_lt_of_cell? w5 ⟨w.heap.size + 1, 0, none⟩ E5.out.1)
    have gd6 := HHK.out.below GD5.out hb6
    have B6 := Lib.hid b6; have E6 := Lib.hid e6; have GD6 := Lib.hid gd6; have Bel6 := Lib.hid bel6
    clear b6 e6 gd6 bel6 hb6
    cases ok with
    | true =>
      obtain rfl := he
      go_wp2_with (first | (refine wpList_load_part rfl 32 _ rfl w.heap.size 0 rfl cs _ B6.out.row Tryz.underlying32 rfl (sizCommit _ Hn.out) ?_) | (refine wpList_store_whole rfl 32 _ _ rfl w.heap.size rfl cs cs 32 rfl B6.out rfl H1.out (sizCommit _ Hn.out) ?_))
      intro w7 g7 s7 b7
      have e7 := E6.out.grown g7 (by simp)
      have gd7 := HHK.out.grown GD6.out g7 (by omega)
      have bel7 : Below w.heap.size w w7 := Bel6.out.trans ⟨g7.os, g7.tape, g7.output, g7.size, fun k hk => g7.block k (by have := Bel6.out.size; omega) (by simp; omega)⟩
      obtain ⟨c7, f7⟩ := id e7
      have E7 := Lib.hid e7; have GD7 := Lib.hid gd7; have Bel7 := Lib.hid bel7; have B7 := Lib.hid b7
      clear g7 s7 b7 e7 gd7 bel7
      go_wp2
      refine leaves_cons (f := 55) (args := #[.pointer (some ⟨w.heap.size, 0, none⟩), .pointer (some ⟨w.heap.size + 1, 0, none⟩)]) (by simp) (by simp [go_sem]) ?_
      refine (decCatchCommit_idle _ _ _).mono ?_
      rintro e u' w'' ⟨rfl, rfl, rfl⟩
      have bf : Blk (w7.setCell ⟨w.heap.size + 1, 0, none⟩ (.int .i64 0)) w.heap.size cs 32 := (Below.heap_setCell w7 ⟨w.heap.size + 1, 0, none⟩ _ w.heap.size (by simp)).trans B7.out
      refine ⟨.tuple #[.agg cs.toArray, .int .i64 0], results_two rfl _ _ ⟨w.heap.size, 0, none⟩ ⟨w.heap.size + 1, 0, none⟩ _ _ rfl rfl (run_loadVar_part _ _ _ 32 cs _ bf.row Tryz.underlying32 rfl (sizCommit _ Hn.out)) (run_loadVar_plain _ _ _ _ _ Tryz.underlying25 rfl (E7.out.set _).1), ?_⟩
      exact ⟨Bel7.out.setCell (by simp) _, cs, rfl, HHK.out.grown GD7.out (Lib.grownBy_setCell w7 (w.heap.size + 1) 0 _) (by omega)⟩
    | false =>
      obtain rfl := he
      refine leaves_cons (f := 55) (args := #[.pointer (some ⟨w.heap.size, 0, none⟩), .pointer (some ⟨w.heap.size + 1, 0, none⟩)]) (by simp) (by simp [go_sem]) ?_
      refine (decCatchCommit_panicking w.heap.size cs _ _ B6.out Hn.out E6.out).mono ?_
      rintro e u' w'' ⟨rfl, rfl, k1, k2, k3⟩
      refine ⟨.tuple #[.agg ZCommit.toArray, .int .i64 61], results_two rfl _ _ ⟨w.heap.size, 0, none⟩ ⟨w.heap.size + 1, 0, none⟩ _ _ rfl rfl (run_loadVar_part _ _ _ 32 ZCommit _ k1.row Tryz.underlying32 rfl (sizCommit _ ZCommit_length)) (run_loadVar_plain _ _ _ _ _ Tryz.underlying25 rfl k2.1), ?_⟩
      exact ⟨Bel6.out.trans k3, by simp⟩
  · have q0 := rdEnd_nz hrest
    go_wp2_with (go_at_call 48; refine (must_no _).mono ?_; rintro e w' ⟨rfl, rfl⟩)
    refine leaves_cons (f := 55) (args := #[.pointer (some ⟨w.heap.size, 0, none⟩), .pointer (some ⟨w.heap.size + 1, 0, none⟩)]) (by simp) (by simp [go_sem]) ?_
    refine (decCatchCommit_panicking w.heap.size cs _ _ B5.out Hn.out E5.out).mono ?_
    rintro e u' w'' ⟨rfl, rfl, k1, k2, k3⟩
    refine ⟨.tuple #[.agg ZCommit.toArray, .int .i64 61], results_two rfl _ _ ⟨w.heap.size, 0, none⟩ ⟨w.heap.size + 1, 0, none⟩ _ _ rfl rfl (run_loadVar_part _ _ _ 32 ZCommit _ k1.row Tryz.underlying32 rfl (sizCommit _ ZCommit_length)) (run_loadVar_plain _ _ _ _ _ Tryz.underlying25 rfl k2.1), ?_⟩
    exact ⟨Bel5.out.trans k3, by simp [hrest]⟩

set_option maxHeartbeats 1000000 in
theorem decodeCommit_not (F G : FuncId) (v : Value) (l : List UInt8) (w : World) (Good : List Value → World → Prop) (hv : RdB w v l) (hl : l.length ≤ 100000000000)
    (hF : ∀ args w, (callFunc F args).run Tryz.prog w = .ok (.enter F args) w) (hG : ∀ args w, (callFunc G args).run Tryz.prog w = .ok (.enter G args) w)
    (HF : TakesNot F w l) :
    Calls Tryz.prog 22 #[v, .func (.func F) #[] #[], .func (.func G) #[] #[]] w (DecPost Good false ZCommit w) := by
  have hmf : ∀ (fn : Fn) (first cap : Array Value) (w : World), (Instr.makeFunc fn first cap).run Tryz.prog w = .ok (.func fn first cap) w := fun _ _ _ _ => rfl
  have Hv := Lib.hid hv; have Hl := Lib.hid hl; have HHF := Lib.hid HF
  clear hv hl HF
  go_enter_defers Tryz.func22, Tryz.ntmps22
  go_wp2_with (refine wpList_alloc_as rfl 32 rfl ZCommit ZCommit_info ?_)
  intro W1 b1 g1 s1
  have B1 := Lib.hid b1; have G1 := Lib.hid g1; clear b1 g1
  go_wp2_with (refine wpList_alloc_as rfl 25 rfl [.int .i64 0] (by kernel_rfl) ?_)
  intro W2 b2 g2 s2
  have B2 := Lib.hid b2; have G2 := Lib.hid g2; have S2 := Lib.hid s2; clear b2 g2 s1
  go_wp2_with fail
  have gW := Lib.grownBy_trans G1.out G2.out
  refine (NewReader_any v l W2 (Hv.out.grown gW) Hl.out).mono ?_
  rintro e w3 ⟨p, rfl, r1, hp, r2⟩
  rw [s2] at hp
  have R1 := Lib.hid r1; have R2 := Lib.hid r2; have Hp := Lib.hid hp; have GW := Lib.hid gW
  clear r1 r2 hp gW s2
  go_wp2_with fail
  refine (HHF.out p w3 R1.out Hp.out).mono ?_
  rintro e w4 ⟨rfl, gr⟩
  have hlt0 : w.heap.size + 2 ≤ W2.heap.size := by rw [S2.out]; omega
  have b4 : Blk w4 w.heap.size ZCommit 32 := (((B1.out.grown G2.out (by simp)).below R2.out (by have := hlt0; omega)).grown gr (by have := Hp.out; simp; omega))
  have e4 : One w4 (w.heap.size + 1) (.int .i64 0) := (((One.of_blk B2.out).below R2.out (by have := hlt0; omega)).grown gr (by have := Hp.out; simp; omega))
  have bel4 : Below w.heap.size w w4 := by
    have q1 : Below w.heap.size w W2 := ⟨GW.out.os, GW.out.tape, GW.out.output, GW.out.size, fun k hk => GW.out.block k hk (by simp)⟩
    have q2 := q1.trans (R2.out.mono (by omega))
    exact q2.trans ⟨gr.os, gr.tape, gr.output, gr.size, fun k hk => gr.block k (by have := q2.size; omega) (by have := Hp.out; simp; omega)⟩
  refine leaves_cons (f := 55) (args := #[.pointer (some ⟨w.heap.size, 0, none⟩), .pointer (some ⟨w.heap.size + 1, 0, none⟩)]) (by simp) (by simp [go_sem]) ?_
  refine (decCatchCommit_panicking w.heap.size ZCommit _ _ b4 ZCommit_length e4).mono ?_
  rintro e u' w'' ⟨rfl, rfl, k1, k2, k3⟩
  refine ⟨.tuple #[.agg ZCommit.toArray, .int .i64 61], results_two rfl _ _ ⟨w.heap.size, 0, none⟩ ⟨w.heap.size + 1, 0, none⟩ _ _ rfl rfl (run_loadVar_part _ _ _ 32 ZCommit _ k1.row Tryz.underlying32 rfl (sizCommit _ ZCommit_length)) (run_loadVar_plain _ _ _ _ _ Tryz.underlying25 rfl k2.1), ?_⟩
  exact ⟨bel4.trans k3, by simp⟩

def errOf {D : Type} (r : Option D) : Int := if r.isSome then 0 else 61
def DecodesS (r : Option (List ValD)) (w : World) (e : Ending) (w' : World) : Prop :=
  Below w.heap.size w w' ∧ ∃ a n k, e = .returned (.tuple #[.slice a n k, .int .i64 (errOf r)]) ∧ w'.ownsRow w.heap.size 78 2 (.slice a n k) (r.getD []).length (setCells (r.getD []))
def decSet (l : List UInt8) : Option (List ValD) :=
  if (rdNum (some l)).1 = 3 ∧ (rdSet (rdNum (some l)).2).2 = some [] then some (rdSet (rdNum (some l)).2).1 else none
theorem enters_takeSet : ∀ args w, (callFunc 18 args).run Tryz.prog w = .ok (.enter 18 args) w := enters Tryz.func18 (by kernel_rfl) rfl
theorem enters_SetCheck : ∀ args w, (callFunc 19 args).run Tryz.prog w = .ok (.enter 19 args) w := enters Tryz.func19 (by kernel_rfl) rfl
set_option maxHeartbeats 400000 in
theorem SetCheck_any (v : Value) (w : World) : Calls Tryz.prog 19 #[v] w (RetB true w) := by
  go_enter Tryz.func19, Tryz.ntmps19
  go_wp2
  go_end0
  exact RetB.yes rfl (Below.refl _ _)

theorem decodeSet_any (v : Value) (l : List UInt8) (w : World) (hv : RdB w v l) (hl : l.length ≤ 100000000000) :
    Calls Tryz.prog 17 #[v, .func (.func 18) #[] #[], .func (.func 19) #[] #[]] w (DecodesS (decSet l) w) := by
  by_cases hk : (rdNum (some l)).1 = 3
  · refine (decodeSet_gen 18 19 v l w (fun v w2 => w2.ownsRow (w.heap.size + 2) 78 2 v (rdSet (rdNum (some l)).2).1.length (setCells (rdSet (rdNum (some l)).2).1)) (rdSet (rdNum (some l)).2).2 hv hl enters_takeSet enters_SetCheck
      (fun p w1 h hp => (takeSet_yes p (some l) w1 h hk).mono fun e w2 ⟨v, h1, h2, h3, h4⟩ => by
        obtain ⟨a, n, k, rfl⟩ := own_shape h2
        exact ⟨a, n, k, h1, own_mono h2 (by have := h.lt; omega), h3, h4⟩)
      (fun v w1 _ => SetCheck_any v w1) (fun v w1 w2 h hs _ => own_stays h hs)).mono ?_
    intro e w' h
    by_cases hb : (rdSet (rdNum (some l)).2).2 = some []
    · rw [decide_eq_true hb] at h
      have e2 : decSet l = some (rdSet (rdNum (some l)).2).1 := if_pos ⟨hk, hb⟩
      rw [e2]
      obtain ⟨h1, v, h2, h3⟩ := h.t
      obtain ⟨a, n, k, rfl⟩ := own_shape h3
      exact ⟨h1, a, n, k, h2, own_mono h3 (by omega)⟩
    · rw [decide_eq_false hb] at h
      have e2 : decSet l = none := if_neg (fun h => hb h.2)
      rw [e2]
      exact ⟨h.f.1, _, _, _, h.f.2, World.ownsRow_nil _ _ _ _⟩
  · have e2 : decSet l = none := if_neg (fun h => hk h.1)
    rw [e2]
    refine (decodeSet_not 18 19 v l w (fun _ _ => True) hv hl enters_takeSet enters_SetCheck (fun p w1 h _ => takeSet_no p (some l) w1 h hk)).mono ?_
    intro e w' h
    exact ⟨h.f.1, _, _, _, h.f.2, World.ownsRow_nil _ _ _ _⟩

set_option maxHeartbeats 400000 in
theorem DecodeSet_any (v : Value) (l : List UInt8) (w : World) (hv : RdB w v l) (hl : l.length ≤ 100000000000) :
    Calls Tryz.prog 5 #[v] w (DecodesS (decSet l) w) := by
  have Hv := Lib.hid hv; have Hl := Lib.hid hl
  clear hv hl
  go_enter Tryz.func5, Tryz.ntmps5
  go_wp2_with fail
  refine (decodeSet_any v l w Hv.out Hl.out).mono ?_
  rintro e w2 ⟨h1, a, n, k, rfl, h2⟩
  have H1 := Lib.hid h1; have H2 := Lib.hid h2
  clear h1 h2
  go_wp2_with fail
  go_ret2
  exact ⟨H1.out, a, n, k, rfl, H2.out⟩

def zCommit : CommitD := { height := 0, round := 0, block := List.replicate 32 0, seals := [] }
theorem zCommit_wf : zCommit.wf := ⟨by unfold i64R; decide, by unfold i64R; decide, rfl, by simp [zCommit]⟩
theorem zCommit_own (B : Nat) (w : World) : zCommit.own B w ZCommit := ⟨.slice none 0 0, World.ownsRow_nil _ _ _ _, rfl⟩
def zHeader : HeaderD := { chain := ⟨#[]⟩, height := 0, time := 0, last := List.replicate 32 0, set := List.replicate 32 0, next := List.replicate 32 0, data := List.replicate 32 0, app := List.replicate 32 0 }
theorem zHeader_wf : zHeader.wf := ⟨by unfold maxLen zHeader; exact Nat.zero_le _, by unfold i64R; decide, by unfold i64R; decide, rfl, rfl, rfl, rfl, rfl⟩
def zLight : LightD := { header := zHeader, commit := zCommit, set := [], next := [] }
theorem zLight_wf : zLight.wf := ⟨zHeader_wf, zCommit_wf, by simp [zLight], by simp [zLight]⟩
theorem zLight_own (B : Nat) (w : World) : zLight.own B w ZLight := ⟨ZCommit, _, _, zCommit_own B w, World.ownsRow_nil _ _ _ _, World.ownsRow_nil _ _ _ _, rfl⟩
def DecodesC (r : Option CommitD) (w : World) (e : Ending) (w' : World) : Prop :=
  Below w.heap.size w w' ∧ ∃ cs, e = .returned (.tuple #[.agg cs.toArray, .int .i64 (errOf r)]) ∧ (r.getD zCommit).own w.heap.size w' cs
def DecodesU (r : Option LightD) (w : World) (e : Ending) (w' : World) : Prop :=
  Below w.heap.size w w' ∧ ∃ cs, e = .returned (.tuple #[.agg cs.toArray, .int .i64 (errOf r)]) ∧ (r.getD zLight).own w.heap.size w' cs
theorem DecodesL.uni {r : Option LightD} {w w' : World} {e : Ending} (h : DecodesL r w e w') : DecodesU r w e w' := by
  obtain ⟨h1, h2⟩ := h
  cases r with
  | none => exact ⟨h1, _, h2, zLight_own _ _⟩
  | some d => obtain ⟨cs, h3, h4⟩ := h2; exact ⟨h1, cs, h3, h4⟩

def decCommit (l : List UInt8) : Option CommitD :=
  if (rdNum (some l)).1 = 4 ∧ (rdCommit (rdNum (some l)).2).2 = some [] ∧ okCommit (rdCommit (rdNum (some l)).2).1 = true then some (rdCommit (rdNum (some l)).2).1 else none
theorem decCommit_wf (l : List UInt8) : ((decCommit l).getD zCommit).wf := by
  unfold decCommit
  split
  · exact rdCommit_wf _
  · exact zCommit_wf
theorem enters_takeCommit : ∀ args w, (callFunc 23 args).run Tryz.prog w = .ok (.enter 23 args) w := enters Tryz.func23 (by kernel_rfl) rfl
theorem enters_checkCommit : ∀ args w, (callFunc 24 args).run Tryz.prog w = .ok (.enter 24 args) w := enters Tryz.func24 (by kernel_rfl) rfl
theorem decodeCommit_any (v : Value) (l : List UInt8) (w : World) (hv : RdB w v l) (hl : l.length ≤ 100000000000) :
    Calls Tryz.prog 22 #[v, .func (.func 23) #[] #[], .func (.func 24) #[] #[]] w (DecodesC (decCommit l) w) := by
  by_cases hk : (rdNum (some l)).1 = 4
  · refine (decodeCommit_gen 23 24 v l w (fun cs w2 => (rdCommit (rdNum (some l)).2).1.own (w.heap.size + 2) w2 cs) (rdCommit (rdNum (some l)).2).2 (okCommit (rdCommit (rdNum (some l)).2).1) hv hl enters_takeCommit enters_checkCommit
      (fun p w1 h hp => (takeCommit_yes p (some l) w1 h hk).mono fun e w2 ⟨cs, h1, h2, h3, h4⟩ => ⟨cs, h1, h2.mono (by have := h.lt; omega), h2.rep.length (rdCommit_wf _), h2.one, h3, h4⟩)
      (fun cs w1 hc => checkCommit_any _ cs w1 (commit_cells hc.rep).1 (commit_cells hc.rep).2) (fun cs w1 w2 h hs _ => h.stays hs)).mono ?_
    intro e w' h
    cases hb : (decide ((rdCommit (rdNum (some l)).2).2 = some []) && okCommit (rdCommit (rdNum (some l)).2).1) with
    | true =>
      rw [hb] at h
      rw [Bool.and_eq_true, decide_eq_true_eq] at hb
      have e2 : decCommit l = some (rdCommit (rdNum (some l)).2).1 := by unfold decCommit; rw [if_pos ⟨hk, hb.1, hb.2⟩]
      rw [e2]
      obtain ⟨h1, cs, h2, h3⟩ := h.t
      exact ⟨h1, cs, h2, h3.mono (by omega)⟩
    | false =>
      rw [hb] at h
      have e2 : decCommit l = none := by
        unfold decCommit; rw [if_neg]
        intro hc
        rw [hc.2.2, decide_eq_true hc.2.1] at hb; cases hb
      rw [e2]
      exact ⟨h.f.1, _, h.f.2, zCommit_own _ _⟩
  · have e2 : decCommit l = none := by unfold decCommit; rw [if_neg (fun h => hk h.1)]
    rw [e2]
    refine (decodeCommit_not 23 24 v l w (fun _ _ => True) hv hl enters_takeCommit enters_checkCommit (fun p w1 h _ => takeCommit_no p (some l) w1 h hk)).mono ?_
    intro e w' h
    exact ⟨h.f.1, _, h.f.2, zCommit_own _ _⟩

set_option maxHeartbeats 400000 in
theorem DecodeCommit_any (v : Value) (l : List UInt8) (w : World) (hv : RdB w v l) (hl : l.length ≤ 100000000000) :
    Calls Tryz.prog 7 #[v] w (DecodesC (decCommit l) w) := by
  have Hv := Lib.hid hv; have Hl := Lib.hid hl
  clear hv hl
  go_enter Tryz.func7, Tryz.ntmps7
  go_wp2_with (refine wpList_alloc_as rfl 32 rfl ZCommit ZCommit_info ?_)
  intro W1 b1 g1 s1
  have B1 := Lib.hid b1; have G1 := Lib.hid g1
  clear b1 g1 s1
  go_wp2_with fail
  refine (decodeCommit_any v l W1 (Hv.out.grown G1.out) Hl.out).mono ?_
  rintro e w2 ⟨hb, cs, rfl, ho⟩
  have hwf := decCommit_wf l
  obtain ⟨d, hd⟩ : ∃ d, (decCommit l).getD zCommit = d := ⟨_, rfl⟩
  rw [hd] at ho hwf
  obtain ⟨ee, he⟩ : ∃ ee, errOf (decCommit l) = ee := ⟨_, rfl⟩
  rw [he]
  have bel : Below w.heap.size w w2 := by
    have q1 : Below w.heap.size w W1 := ⟨G1.out.os, G1.out.tape, G1.out.output, G1.out.size, fun k hk => G1.out.block k hk (by simp)⟩
    exact q1.trans (hb.mono G1.out.size)
  have Hrb := Lib.hid B1.out.lt
  have B2 := Lib.hid (B1.out.below hb B1.out.lt); have Bel := Lib.hid bel
  have Hc := Lib.hid (ho.rep.length hwf)
  have Ho := Lib.hid ho; have Hd := Lib.hid hd; have He := Lib.hid he
  clear bel hb ho hd he hwf
  go_wp2_with (refine wpList_store_whole rfl 32 _ _ rfl w.heap.size rfl cs ZCommit 32 rfl B2.out (by rw [Hc.out]; rfl) Ho.out.one (by rw [Hc.out]; exact sizeCommit) ?_)
  intro w3 g3 s3 b3
  have B3 := Lib.hid b3; have G3 := Lib.hid g3; clear b3 g3 s3
  go_wp2_with fail
  refine bodyPost_ret (results_cell_tmp rfl _ _ ⟨w.heap.size, 0, none⟩ _ _ rfl rfl (run_loadVar_part _ _ _ 32 cs _ B3.out.row Tryz.underlying32 rfl (by rw [Hc.out]; exact sizeCommit))) rfl ?_
  unfold DecodesC
  rw [Hd.out, He.out]
  exact ⟨Bel.out.trans ⟨G3.out.os, G3.out.tape, G3.out.output, G3.out.size, fun k hk => G3.out.block k (by have := Bel.out.size; omega) (by simp; omega)⟩, cs, rfl, (Ho.out.stays fun b hb hlt => G3.out.block b hlt (by have := Hrb.out; simp; omega)).mono (Nat.le_of_lt Hrb.out)⟩

end Go.Proofs.YtaffpgafbjhahaaGreatDoor
