/- Walks of the document's digest of parts; of what is signed; of the hashes of headers and validators. -/
import Derived.Test.YtaffpgafbjhahaaDoorRSum
import Derived.Test.YtaffpgafbjhahaaDoorRefSet
import Derived.Test.YtaffpgafbjhahaaDoorWanted
namespace Go.Proofs.YtaffpgafbjhahaaDoor
open Go.RowKit
set_option maxRecDepth 100000

set_option maxHeartbeats 1600000 in
theorem rjoin_one (tag : UInt8) (l : List UInt8) (v : Value) (w : World) (hv : RdB w v l) (hlen : l.length ≤ 140737488355000) :
    Calls Tryd.prog 101 #[.int .u8 (tag.toNat : Int), .slice (some ⟨w.heap.size, 0, none⟩) 1 1] (w.alloc (.cells #[v] 30)) fun e w' => e = .returned (.agg (Lib.byteCells (blake (tag :: l))).toArray) ∧ w.grownBy w' none := by
  obtain ⟨W, hW⟩ : ∃ W, w.alloc (.cells #[v] 30) = W := ⟨_, rfl⟩
  have hP : Blk W w.heap.size [v] 30 := hW ▸ Blk.new w [v] _
  have hg : Below w.heap.size w W := hW ▸ below_box w _
  have hs : W.heap.size = w.heap.size + 1 := by rw [← hW]; simp
  rw [hW]
  obtain ⟨pb, hpb⟩ : ∃ n, w.heap.size = n := ⟨_, rfl⟩
  have HV := Lib.hid (show ∀ wx, Below pb w wx → RdB wx v l from fun wx hb => hv.grown (below_grown (hpb ▸ hb)))
  rw [hpb] at hP hs hg ⊢
  have HP := Lib.hid hP; have Hg := Lib.hid hg; have HS := Lib.hid hs; have Hpb := Lib.hid hpb
  clear hW hP hg hv hpb hs
  go_enter Tryd.func101, Tryd.ntmps101
  go_wp2_with (refine wpList_alloc_as rfl 24 rfl ZH ZH_info ?_)
  intro w1 k1 k2 k3
  rw [HS.out] at k1 k3 ⊢
  have ga := World.grownBy_alloc w1 (.cells #[.int .u8 (tag.toNat : Int)] 5) none
  have P2 := Lib.hid ((HP.out.grown k2 (by simp)).grown ga (by simp)); have O2 := Lib.hid (k1.grown ga (by simp))
  have B2 := Lib.hid (Hg.out.trans (((below_of_grown k2).mono (by rw [HS.out]; omega)).trans ((below_of_grown ga).mono (by rw [k3]; omega))))
  have own1 : OwnB w1.heap.size (.slice (some ⟨w1.heap.size, 0, none⟩) 1 1) [tag] (w1.alloc (.cells #[.int .u8 (tag.toNat : Int)] 5)) :=
    World.ownsRow_lit (base := w1.heap.size) (e := 5) (size := 1) w1 _ 1 (Nat.le_refl _) (by unfold maxLen; omega) rfl
  have Z2 := Lib.hid (show pb + 2 ≤ (w1.alloc (.cells #[.int .u8 (tag.toNat : Int)] 5)).heap.size by simp; omega)
  rw [k3] at own1
  have Ow := Lib.hid own1; have K3 := Lib.hid k3
  clear own1 k1 k2 k3 ga HP Hg HS
  go_wp2_with fail
  rw [K3.out]
  generalize (w1.alloc (.cells #[.int .u8 (tag.toNat : Int)] 5)) = w2 at P2 O2 B2 Z2 Ow ⊢
  go_loopw [5, 6] (fun a i wr => ∃ j : Nat, j ≤ 1 ∧ i = .int .i64 j ∧ OwnB (pb + 2) a (if j = 0 then [tag] else tag :: l) wr ∧ Blk wr pb [v] 30 ∧ Blk wr (pb + 1) ZH 24 ∧ Below pb w wr ∧ pb + 2 ≤ wr.heap.size) (fun _ i _ => 1 - (intOf i).toNat)
  case atStart => exact ⟨0, Nat.zero_le _, rfl, Ow.out, P2.out, O2.out, B2.out, Z2.out⟩
  case round =>
    obtain ⟨j, hj, rfl, ho, hp, hh, hg, hz⟩ := hrel
    have Ho := Lib.hid ho; have Hp := Lib.hid hp; have Hh := Lib.hid hh; have Hg := Lib.hid hg; have Hz := Lib.hid hz
    by_cases hj0 : j = 0
    · subst hj0
      rw [if_pos rfl] at Ho
      have c0 := hp.row 0 _ rfl
      rw [Nat.zero_add] at c0
      clear ho hp hh hg hz
      go_wp2_with (first | (refine wpList_app rfl _ _ rfl rfl Ho.out rfl (HV.out _ Hg.out) ?_ Hz.out ?_; (simp only [List.length_singleton]; omega); intro a' n' c' w' ho' hb'))
      exact ⟨⟨1, Nat.le_refl _, rfl, ho', Hp.out.below hb' (by omega), Hh.out.below hb' (by omega), Hg.out.trans (hb'.mono (by omega)), Nat.le_trans Hz.out hb'.size⟩, by simp [intOf]⟩
    · obtain rfl : j = 1 := by omega
      rw [if_neg (by omega)] at ho
      obtain ⟨ao, c, rfl, h1, h2, h3⟩ := ho.rd
      obtain ⟨g, o, rfl, hgl, hr⟩ : ∃ g o, ao = some ⟨g, o, none⟩ ∧ g < wr.heap.size ∧ RowAt wr g o (Lib.byteCells (tag :: l)) := by
        rcases h3 with ⟨_, h, _⟩ | h
        · cases h
        · exact h
      have C := Lib.hid (rsum_ok (tag :: l) g o c wr (by simp) h1 h2 hr hgl (by rw [List.length_cons]; omega))
      clear ho hp hh hg hz h1 h2 h3 hr hgl Ho Hp Ow P2 O2 B2 Z2
      go_wp2_with fail
      refine C.out.mono ?_
      rintro e w5 ⟨rfl, g5⟩
      have O5 := Lib.hid (Hh.out.grown g5 (by simp)); have B5 := Lib.hid (Hg.out.trans ((below_of_grown g5).mono (by have := Hz.out; omega)))
      have hbl := blake_len (tag :: l)
      obtain ⟨X, hX⟩ : ∃ X, blake (tag :: l) = X := ⟨_, rfl⟩
      rw [hX] at hbl ⊢
      have hxl : (Lib.byteCells X).length = 32 := by rw [Lib.byteCells_length]; exact hbl
      have HX := Lib.hid hX
      clear g5 hX C Hh Hg Hz
      go_wp2_with (first | (refine wpList_store_whole rfl 24 _ _ rfl (pb + 1) rfl (Lib.byteCells X) ZH 24 rfl O5.out (by rw [hxl]; rfl) (Lib.byteCells_one _) (sizeH _ hxl) ?_))
      intro w9 g9 s9 b9
      have B9 := Lib.hid b9; have G9 := Lib.hid (below_row B5.out g9 (by omega) O5.out.lt)
      clear b9 g9 s9
      go_wp2
      refine bodyPost_ret (results_cell_one rfl _ _ ⟨pb + 1, 0, none⟩ _ rfl (run_loadVar_part _ _ _ 24 (Lib.byteCells X) _ B9.out.row Tryd.underlying24 rfl (sizeH _ hxl))) rfl ?_
      rw [HX.out]
      exact ⟨rfl, below_grown (Hpb.out ▸ G9.out)⟩


theorem bSig0 : Tryd.prog.built 27 [] = some ([.int .u64 0, .int .u64 0] : List Value).toArray := by kernel_rfl
theorem sizeSig2 : (Tryd.prog.info? 27).map (·.size) = some ([.int .u64 0, .int .u64 0] : List Value).length := by kernel_rfl
theorem bare_cells (v : VoteD) (h : v.wf) : (v.cells.set 36 (Value.int .u64 0)).take 37 ++ ([.int .u64 0, .int .u64 0] : List Value) ++ (v.cells.set 36 (Value.int .u64 0)).drop (37 + 2) = v.bare.cells := by
  unfold VoteD.cells VoteD.bare
  generalize hp : [Value.string v.chain, .int .i64 v.height, .int .i64 v.round, .int .i64 v.type] ++ Lib.byteCells v.block = p
  have hlen : p.length = 36 := by rw [← hp]; simp [Lib.byteCells_length, h.block]
  rw [List.set_append_right _ _ (by omega), hlen]
  show (p ++ ([.int .u64 0, .int .u64 v.r, .int .u64 v.s] : List Value)).take 37 ++ ([.int .u64 0, .int .u64 0] : List Value) ++ (p ++ ([.int .u64 0, .int .u64 v.r, .int .u64 v.s] : List Value)).drop 39 = _
  rw [List.take_append, List.take_of_length_le (by omega), hlen, List.drop_eq_nil_of_le (by simp [hlen])]
  simp

set_option maxHeartbeats 800000 in
theorem RSign (v : VoteD) (w : World) (hv : v.wf) (hc : v.chain.size ≤ 140737488351232) :
    Calls Tryd.prog 38 #[.agg v.cells.toArray] w (BytesOk (encVote v.bare) (okVote v) w) := by
  have Hv := Lib.hid hv; have Hc := Lib.hid hc
  have hl := v.cells_length hv
  clear hv hc
  go_enter Tryd.func38, Tryd.ntmps38
  go_wp2_with (refine wpList_box_as rfl 29 _ rfl v.cells rfl ?_)
  intro w1 b1 g1 s1
  have B1 := Lib.hid b1; have G1 := Lib.hid (below_of_grown g1)
  clear b1 g1 s1
  go_wp2_with (first | (refine wpList_store_cell rfl 25 _ _ rfl w.heap.size 36 rfl (.int .u64 0) rfl rfl v.cells 29 B1.out (by omega) (by kernel_rfl) ?_))
  intro w2 g2 s2 b2
  have B2 := Lib.hid b2; have G2 := Lib.hid (below_row G1.out g2 (Nat.le_refl _) B1.out.lt)
  clear b2 g2 s2 B1 G1
  go_wp2_with (first | (refine wpList_build_eq rfl 27 _ rfl [] (by kernel_rfl) [.int .u64 0, .int .u64 0] bSig0 ?_) | (refine wpList_store_part rfl 27 _ _ rfl w.heap.size 37 rfl [.int .u64 0, .int .u64 0] (v.cells.set 36 (.int .u64 0)) 29 rfl B2.out (by rw [List.length_set, hl]; decide) (by intro u hu; simp at hu; subst hu; rfl) sizeSig2 ?_))
  intro w3 g3 s3 b3
  have B3 := Lib.hid (show Blk w3 w.heap.size v.bare.cells 29 by rw [← bare_cells v Hv.out]; simpa using b3); have G3 := Lib.hid (below_row G2.out g3 (Nat.le_refl _) B2.out.lt)
  clear b3 g3 s3 B2 G2
  go_wp2_with (refine wpList_load_part rfl 29 _ rfl w.heap.size 0 rfl v.bare.cells _ B3.out.row Tryd.underlying29 rfl (v.bare.size (VoteD.bare_wf Hv.out)) ?_)
  refine (show Calls Tryd.prog 37 #[.agg v.bare.cells.toArray] w3 _ from RVote v.bare w3 (VoteD.bare_wf Hv.out) Hc.out).mono ?_
  rintro e w4 ⟨a, n, c, rfl, o4, b4⟩
  have O4 := Lib.hid (o4.mono G3.out.size); have G4 := Lib.hid (G3.out.trans (b4.mono G3.out.size))
  clear o4 b4 B3 G3
  go_wp2_with fail
  go_ret2
  exact ⟨a, n, c, rfl, O4.out, G4.out⟩

/-- what the document's hashing answers -/
def RHashes (tag : UInt8) (ok : Bool) (l : List UInt8) (w : World) (e : Ending) (w' : World) : Prop :=
  e = .returned (.tuple #[.agg (Lib.byteCells (blake (tag :: l))).toArray, .bool ok]) ∧ w.grownBy w' none
set_option maxHeartbeats 800000 in
theorem RHeaderHash (d : HeaderD) (w : World) (hv : d.wf) (hc : d.chain.size ≤ 140737488351232) :
    Calls Tryd.prog 40 #[.agg d.cells.toArray] w (RHashes 2 (okHeader d) (encHeader d) w) := by
  have hcl : d.cells.length = 163 := d.cells_length hv
  have hle : (encHeader d).length ≤ 140737488355000 := by
    simp only [encHeader, List.length_append, be64_length, textL_length, hv.last, hv.set, hv.next, hv.data, hv.app]; omega
  have HV := Lib.hid hv; have HC := Lib.hid hc; have HL := Lib.hid hle
  clear hv hc hle
  go_enter Tryd.func40, Tryd.ntmps40
  go_wp2_with (first | (refine wpList_box_as rfl 57 _ rfl d.cells rfl ?_))
  intro w1 b1 g1 s1
  have B1 := Lib.hid b1; have G1 := Lib.hid (below_of_grown g1); have S1 := Lib.hid s1
  clear b1 g1 s1
  go_wp2_with (first | (refine wpList_alloc_as rfl 24 rfl ZH ZH_info ?_))
  intro w2 k1 k2 k3
  rw [S1.out] at k1 ⊢
  have B2 := Lib.hid (B1.out.grown k2 (by simp)); have O2 := Lib.hid k1; have G2 := Lib.hid (G1.out.trans ((below_of_grown k2).mono G1.out.size))
  clear k1 k2 k3 B1 G1 S1
  go_wp2_with (refine wpList_load_part rfl 57 _ rfl w.heap.size 0 rfl d.cells _ B2.out.row Tryd.underlying57 rfl (sizeHeader _ hcl) ?_)
  refine (show Calls Tryd.prog 39 #[.agg d.cells.toArray] w2 _ from RHeader d w2 HV.out HC.out).mono ?_
  rintro e w3 ⟨a, n, c, rfl, o3, b3⟩
  have E3 := Lib.hid o3.rd; have O3 := Lib.hid (O2.out.below b3 O2.out.lt); have G3 := Lib.hid (G2.out.trans (b3.mono G2.out.size))
  clear o3 b3 B2 O2 G2
  obtain ⟨ok, hok⟩ : ∃ ok, okHeader d = ok := ⟨_, rfl⟩
  rw [hok]
  have Hok := Lib.hid hok
  clear hok
  go_wp2_with fail
  refine (show Calls Tryd.prog 101 #[.int .u8 2, .slice (some ⟨w3.heap.size, 0, none⟩) 1 1] (w3.alloc (.cells #[.slice a n c] 30)) _ from rjoin_one 2 (encHeader d) (.slice a n c) w3 E3.out HL.out).mono ?_
  rintro e w4 ⟨rfl, g4⟩
  have hxl : (Lib.byteCells (blake (2 :: encHeader d))).length = 32 := by rw [Lib.byteCells_length]; exact blake_len _
  obtain ⟨X, hX⟩ : ∃ X, blake (2 :: encHeader d) = X := ⟨_, rfl⟩
  rw [hX] at hxl ⊢
  have O4 := Lib.hid (O3.out.grown g4 (by simp)); have G4 := Lib.hid (G3.out.trans ((below_of_grown g4).mono G3.out.size)); have HX := Lib.hid hX
  clear g4 O3 G3 E3 hX
  go_wp2_with (first | (refine wpList_store_whole rfl 24 _ _ rfl (w.heap.size + 1) rfl (Lib.byteCells X) ZH 24 rfl O4.out (by rw [hxl]; rfl) (Lib.byteCells_one _) (sizeH _ hxl) ?_))
  intro w5 g6 s6 b6
  have B6 := Lib.hid b6; have G6 := Lib.hid (below_row G4.out g6 (Nat.le_succ _) O4.out.lt)
  clear b6 g6 s6
  go_wp2
  refine bodyPost_ret (results_cell_tmp rfl _ _ ⟨w.heap.size + 1, 0, none⟩ _ _ rfl rfl (run_loadVar_part _ _ _ 24 (Lib.byteCells X) _ B6.out.row Tryd.underlying24 rfl (sizeH _ hxl))) rfl ?_
  unfold RHashes
  rw [HX.out, Hok.out]
  exact ⟨rfl, below_grown G6.out⟩

set_option maxHeartbeats 800000 in
theorem RSetHash {B : Nat} (v : Value) (ds : List ValD) (w : World) (hr : RdS B w v ds.length 2 (setCells ds)) (hB : B ≤ w.heap.size) (hw : ∀ d ∈ ds, d.wf) :
    Calls Tryd.prog 45 #[v] w (RHashes 3 (okSet ds) (refSet ds) w) := by
  obtain ⟨ao, cp, rfl⟩ := hr.shape
  have HR := Lib.hid hr; have HW := Lib.hid hw; have HB := Lib.hid hB
  clear hr hw hB
  go_enter Tryd.func45, Tryd.ntmps45
  go_wp2_with (first | (refine wpList_alloc_as rfl 24 rfl ZH ZH_info ?_))
  intro w2 k1 k2 k3
  have O2 := Lib.hid k1; have G2 := Lib.hid (below_of_grown k2); have R2 := Lib.hid (HR.out.grown k2)
  clear k1 k2 k3
  go_wp2_with fail
  refine (RSet _ ds w2 R2.out (Nat.le_trans HB.out G2.out.size) HW.out).mono ?_
  rintro e w3 ⟨a, n, c, rfl, o3, b3⟩
  have E3 := Lib.hid o3.rd; have O3 := Lib.hid (O2.out.below b3 O2.out.lt); have G3 := Lib.hid (G2.out.trans (b3.mono G2.out.size))
  clear o3 b3 O2 G2 R2
  obtain ⟨ok, hok⟩ : ∃ ok, okSet ds = ok := ⟨_, rfl⟩
  rw [hok]
  have Hok := Lib.hid hok
  clear hok
  go_wp2_with fail
  refine (show Calls Tryd.prog 101 #[.int .u8 3, .slice (some ⟨w3.heap.size, 0, none⟩) 1 1] (w3.alloc (.cells #[.slice a n c] 30)) _ from rjoin_one 3 (refSet ds) (.slice a n c) w3 E3.out (by have := refSet_len ds; omega)).mono ?_
  rintro e w4 ⟨rfl, g4⟩
  have hxl : (Lib.byteCells (blake (3 :: refSet ds))).length = 32 := by rw [Lib.byteCells_length]; exact blake_len _
  obtain ⟨X, hX⟩ : ∃ X, blake (3 :: refSet ds) = X := ⟨_, rfl⟩
  rw [hX] at hxl ⊢
  have O4 := Lib.hid (O3.out.grown g4 (by simp)); have G4 := Lib.hid (G3.out.trans ((below_of_grown g4).mono G3.out.size)); have HX := Lib.hid hX
  clear g4 O3 G3 E3 hX
  go_wp2_with (first | (refine wpList_store_whole rfl 24 _ _ rfl w.heap.size rfl (Lib.byteCells X) ZH 24 rfl O4.out (by rw [hxl]; rfl) (Lib.byteCells_one _) (sizeH _ hxl) ?_))
  intro w5 g6 s6 b6
  have B6 := Lib.hid b6; have G6 := Lib.hid (below_row G4.out g6 (Nat.le_refl _) O4.out.lt)
  clear b6 g6 s6
  go_wp2
  refine bodyPost_ret (results_cell_tmp rfl _ _ ⟨w.heap.size, 0, none⟩ _ _ rfl rfl (run_loadVar_part _ _ _ 24 (Lib.byteCells X) _ B6.out.row Tryd.underlying24 rfl (sizeH _ hxl))) rfl ?_
  unfold RHashes
  rw [HX.out, Hok.out]
  exact ⟨rfl, below_grown G6.out⟩

end Go.Proofs.YtaffpgafbjhahaaDoor
