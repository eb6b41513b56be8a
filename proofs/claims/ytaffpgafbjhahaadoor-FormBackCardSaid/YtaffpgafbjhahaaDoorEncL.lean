/- Walks: forms.many, putSet. -/
import Derived.Test.YtaffpgafbjhahaaDoorSlc
import Derived.Test.YtaffpgafbjhahaaDoorAlive6
namespace Go.Proofs.YtaffpgafbjhahaaDoor
open Go.RowKit
set_option maxRecDepth 100000

set_option maxHeartbeats 400000 in
theorem many_yes (n most : Int) (w : World) (h : n ≤ most) : Calls Tryd.prog 56 #[.int .i64 n, .int .i64 most] w fun e w' => e = .returned (.int .i64 n) ∧ w = w' := by
  have d : decide (n ≤ most) = true := by simpa using h
  clear h
  go_enter Tryd.func56, Tryd.ntmps56
  go_wp2_with (go_at_call 107; refine (must_yes _).mono ?_; rintro e w' ⟨rfl, rfl⟩)
  go_ret
  exact ⟨rfl, rfl⟩
set_option maxHeartbeats 400000 in
theorem many_no (n most : Int) (w : World) (h : most < n) : Calls Tryd.prog 56 #[.int .i64 n, .int .i64 most] w fun e w' => e = .panicked wrongP ∧ w = w' := by
  have d : decide (n ≤ most) = false := by simpa using h
  clear h
  go_enter Tryd.func56, Tryd.ntmps56
  go_wp2_with (go_at_call 107; refine (must_no _).mono ?_; rintro e w' ⟨rfl, rfl⟩)
  exact ⟨rfl, rfl, rfl⟩

def ZVal : List Value := [.int .u64 0, .int .i64 0]
theorem ZVal_info : (Tryd.prog.info? 149).map (fun i => i.zero.map (fun v => v.cells)) = some (some ZVal.toArray) := by kernel_rfl
theorem sizeVal : (Tryd.prog.info? 149).map (·.size) = some 2 := by kernel_rfl
theorem ValD_one (v : ValD) : ∀ x ∈ v.cells, x.oneCell' = true := by simp [ValD.cells, Value.oneCell']
def ZSeal : List Value := [.int .u64 0, .int .u64 0, .int .u64 0]
theorem ZSeal_info : (Tryd.prog.info? 153).map (fun i => i.zero.map (fun v => v.cells)) = some (some ZSeal.toArray) := by kernel_rfl
theorem sizeSeal : (Tryd.prog.info? 153).map (·.size) = some 3 := by kernel_rfl
theorem SealD_one (v : SealD) : ∀ x ∈ v.cells, x.oneCell' = true := by simp [SealD.cells, Value.oneCell']

theorem St.put {b L L' : Nat} {w1 w : World} {bs bs' : List UInt8} (h : St b w1 bs L w) (hb : bs = bs') (hL : L ≤ L') : St b w1 bs' L' w := ⟨hb ▸ h.isW, h.bel, by rw [← hb]; exact Nat.le_trans h.len hL⟩
theorem encVals_take (ds : List ValD) (k : Nat) (h : k < ds.length) : encVals (ds.take (k + 1)) = encVals (ds.take k) ++ be64 ds[k].key ++ be64 ds[k].power := by
  rw [List.take_succ_eq_append_getElem h, encVals_snoc, List.append_assoc]; rfl
theorem St.grown {b L : Nat} {w1 w w' : World} {bs : List UInt8} (h : St b w1 bs L w) (hg : w.grownBy w' none) : St b w1 bs L w' := h.over ⟨hg.os, hg.tape, hg.output, hg.size, fun k hk => hg.block k hk (by simp)⟩
theorem WK.over {b : Nat} {u w w' : World} (h : WK b b u w) (hg : w.grownBy w' none) (hb : b ≤ w.heap.size) : Below b u w' := h.1.trans ⟨hg.os, hg.tape, hg.output, hg.size, fun k hk => hg.block k (by omega) (by simp)⟩
theorem Blk.kept {w w' : World} {m b : Nat} {cs : List Value} {T : TypeId} (h : Blk w m cs T) (hk : Lib.OthersKept 5 (some b) w w') (hT : T ≠ 5) (hm : m ≠ b) : Blk w' m cs T :=
  hk m _ h (by simp; exact hm) (by simp; exact fun e => hT e)

set_option maxHeartbeats 1000000 in
theorem putSet_yes {b L : Nat} {w1 w : World} {bs : List UInt8} (h : St b w1 bs L w) (hL : L ≤ 100000000) (v : Value) (ds : List ValD) (hr : RdS b w v ds.length 2 (setCells ds)) (hn : ds.length ≤ 64) (hw : ∀ d ∈ ds, d.wf) :
    Calls Tryd.prog 89 #[.pointer (some ⟨b, 0, none⟩), v] w fun e w' => e = .returned (.tuple #[]) ∧ St b w1 (bs ++ encSet ds) (L + 1040) w' ∧ Below b w w' := by
  have H := Lib.hid h; have Hw := Lib.hid hw
  obtain ⟨ao, c, rfl, hle, hcm, _, hrow⟩ := hr
  have Hrow := Lib.hid hrow
  unfold maxLen at hcm
  clear h hw hrow
  go_enter Tryd.func89, Tryd.ntmps89
  go_wp2_with fail
  refine (Number_st H.out (by omega) _).mono ?_
  rintro e w2 ⟨rfl, k1, k2⟩
  have S := Lib.hid k1; have K := Lib.hid k2.1; clear k1 k2
  go_wp2_with (go_at_call 56; refine (many_yes _ _ _ (by omega)).mono ?_; rintro e w' ⟨rfl, rfl⟩)
  refine (Number_st S.out (by omega) _).mono ?_
  rintro e w3 ⟨rfl, k1, k2⟩
  replace S := Lib.hid k1; replace K := Lib.hid (K.out.trans k2.1); clear k1 k2
  go_wp2_with fail
  go_loopw [15] (fun i wr => ∃ k : Nat, k ≤ ds.length ∧ i = .int .i64 k ∧ St b w1 (bs ++ be64 3 ++ be64 ds.length ++ encVals (ds.take k)) (L + 8 + 8 + 16 * k) wr ∧ Below b w wr) (fun i _ => ds.length - (intOf i).toNat)
  case atStart => exact ⟨0, Nat.zero_le _, rfl, by simpa [encVals] using S.out, K.out⟩
  case round =>
    obtain ⟨k, hk, rfl, hs, hb⟩ := hrel
    have Hs := Lib.hid hs; have Hb := Lib.hid hb; clear hs hb
    by_cases hlt : k < ds.length
    · rcases Hrow.out with ⟨_, h0, _⟩ | ⟨g, o, rfl, hg, hrow⟩
      · omega
      have R := Lib.hid (RowAt.elem (hrow.below Hb.out hg) (fun d _ => d.cells_length) k hlt)
      obtain ⟨d, hd⟩ : ∃ d, d = ds[k] := ⟨_, rfl⟩
      rw [← hd] at R
      have Hwd := Lib.hid (Hw.out d (by rw [hd]; exact List.getElem_mem _))
      have Ht := Lib.hid (encVals_take ds k hlt)
      rw [← hd] at Ht
      clear hd hrow hg
      go_wp2_with (first | (refine wpList_load_part rfl 149 _ rfl g (o + k * 2) rfl d.cells _ R.out Tryd.underlying149 rfl sizeVal ?_) | (refine wpList_alloc_as rfl 149 rfl ZVal ZVal_info ?_))
      intro w4 b4 g4 s4
      have B4 := Lib.hid b4; have G4 := Lib.hid g4; clear b4 g4 s4
      go_wp2_with (refine wpList_store_whole rfl 149 _ _ rfl wr.heap.size rfl d.cells ZVal 149 rfl B4.out rfl (ValD_one d) sizeVal ?_)
      intro w5 g5 s5 b5
      have hm : b < wr.heap.size := Hs.out.isW.lt
      have Gn := Lib.hid (grown_new G4.out g5 (Nat.le_refl _))
      have S5 := Lib.hid (Hs.out.grown Gn.out)
      have c := b5.row 0 _ rfl; rw [Nat.zero_add] at c
      have B5 := Lib.hid b5; clear b5 g5 s5
      go_wp2_with fail
      refine (Word_st S5.out (by omega) _ Hwd.out.1).mono ?_
      rintro e w6 ⟨rfl, k1, k2⟩
      have S6 := Lib.hid k1
      have B6 := Lib.hid (B5.out.kept k2.2 (by decide) (by omega))
      have K6 := Lib.hid ((WK.over (WK.refl b b wr) Gn.out (by omega)).trans k2.1)
      clear k1 k2 c
      have c := B6.out.row 1 _ rfl; rw [Nat.zero_add] at c
      go_wp2_with fail
      refine (Number_st S6.out (by omega) _).mono ?_
      rintro e w7 ⟨rfl, k1, k2⟩
      have S7 := Lib.hid k1
      have K7 := Lib.hid (K6.out.trans k2.1)
      clear k1 k2 c
      go_wp2_with fail
      refine ⟨⟨k + 1, by omega, by go_num, S7.out.put ?_ (by omega), Hb.out.trans K7.out⟩, by simp [intOf]; omega⟩
      rw [Ht.out]; simp only [List.append_assoc]
    · obtain rfl : k = ds.length := by omega
      go_wp2_with fail
      go_end0
      refine ⟨rfl, Hs.out.put ?_ (by omega), Hb.out⟩
      rw [List.take_of_length_le (Nat.le_refl _)]; simp only [encSet, List.append_assoc]

set_option maxHeartbeats 400000 in
theorem putSet_no {b L : Nat} {w1 w : World} {bs : List UInt8} (h : St b w1 bs L w) (hL : L ≤ 100000000) (v : Value) (ds : List ValD) (hr : RdS b w v ds.length 2 (setCells ds)) (hn : 64 < ds.length) :
    Calls Tryd.prog 89 #[.pointer (some ⟨b, 0, none⟩), v] w fun e w' => e = .panicked wrongP ∧ Below b w w' := by
  have H := Lib.hid h
  obtain ⟨ao, c, rfl, hle, hcm, _, hrow⟩ := hr
  unfold maxLen at hcm
  clear h hrow
  go_enter Tryd.func89, Tryd.ntmps89
  go_wp2_with fail
  refine (Number_st H.out (by omega) _).mono ?_
  rintro e w2 ⟨rfl, k1, k2⟩
  have K := Lib.hid k2.1; clear k1 k2
  go_wp2_with (go_at_call 56; refine (many_no _ _ _ (by omega)).mono ?_; rintro e w' ⟨rfl, rfl⟩)
  exact ⟨rfl, rfl, K.out⟩

end Go.Proofs.YtaffpgafbjhahaaDoor
