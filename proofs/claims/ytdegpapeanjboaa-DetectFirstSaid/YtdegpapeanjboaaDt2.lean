/- Walks: detect.at, nuncioref17.of, nunciolaw15.Few, nunciolaw17.few. -/
import Derived.Test.YtdegpapeanjboaaDt
namespace Go.Proofs.Ytdegpapeanjboaa
open Go.RowKit
set_option maxRecDepth 100000

def zLt : LtR := ⟨⟨⟨#[]⟩, 0, 0, List.replicate 32 0, List.replicate 32 0, List.replicate 32 0, List.replicate 32 0, List.replicate 32 0⟩, 0, 0, List.replicate 32 0, none, 0, 0, none, 0, 0, none, 0, 0⟩
theorem zLt_wf : zLt.wf := ⟨⟨by decide, by unfold i64R; decide, by unfold i64R; decide, rfl, rfl, rfl, rfl, rfl⟩, rfl, Nat.zero_le _, Nat.zero_le _, Nat.zero_le _⟩
theorem zLt_info : (Try.prog.info? 38).map (fun i => i.zero.map (fun v => v.cells)) = some (some zLt.cells.toArray) := by kernel_rfl
theorem zLt_built : Try.prog.built 38 [] = some zLt.cells.toArray := by kernel_rfl
theorem LtR.one (l : LtR) : ∀ x ∈ l.cells, x.oneCell' = true := by
  have hb := fun (l : List UInt8) x (h : x ∈ Lib.byteCells l) => Lib.byteCells_one l x h
  intro x hx
  simp only [LtR.cells, LtR.mid, HeaderD.cells, List.mem_append, List.mem_cons, List.not_mem_nil, or_false] at hx
  grind [Value.oneCell']

set_option maxHeartbeats 1000000 in
theorem at_ok {B : Nat} (v : Value) (ds : List LtR) (h : Int) (w : World) (hv : RdS B w v ds.length 200 (ltsCells ds)) (hB : B ≤ w.heap.size) (hw : ∀ d ∈ ds, d.wf) :
    Calls Try.prog 13 #[v, .int .i64 h] w fun e w' => e = .returned (.tuple #[.agg ((atL ds h).getD zLt).cells.toArray, .bool (atL ds h).isSome]) ∧ w.grownBy w' none := by
  have hlen := hv.le
  obtain ⟨ao, cp, rfl⟩ := hv.shape
  have HV := Lib.hid hv; have HB := Lib.hid hB; have HW := Lib.hid hw
  unfold maxLen at hlen
  clear hv hB hw
  go_enter Try.func13, Try.ntmps13
  go_wp2_with (refine wpList_alloc_as rfl 38 rfl zLt.cells zLt_info ?_)
  intro w1 b1 g1 s1
  have hb0 := (Blk.new w [.int .i64 h] 3).row
  have C1 := Lib.hid (hb0.grown g1 (by simp))
  have B1 := Lib.hid b1
  have G1 := Lib.hid (Lib.grownBy_trans (World.grownBy_alloc w (.cells #[.int .i64 h] 3) none) g1)
  obtain ⟨lb, hlb⟩ : ∃ lb, w.heap.size + 1 = lb := ⟨_, rfl⟩
  have Hlb := Lib.hid (show w.heap.size ≤ lb by omega)
  rw [hlb] at B1 ⊢
  clear b1 g1 s1 hb0 hlb
  go_wp2_with fail
  refine (IndexFunc_ok _ ds w.heap.size h w1 (HV.out.grown G1.out) (Nat.le_trans HB.out G1.out.size) HW.out C1.out).mono ?_
  rintro e w2 ⟨rfl, g2⟩
  have B2 := Lib.hid (B1.out.grown g2 (by simp)); have G2 := Lib.hid (Lib.grownBy_trans G1.out g2)
  clear B1 G1 C1 g2
  rcases idxL_cases ds h with ⟨k, hk, e1, e2⟩ | ⟨e1, e2⟩
  · rw [e1]
    obtain ⟨g, o, c, e, _, _, hgB, hr⟩ := HV.out.at_ (by omega)
    injection e with e3 e4 e5
    subst e3
    have hne : g ≠ lb := by have := HB.out; have := Hlb.out; omega
    have R := Lib.hid (LtR.elem (hr.grown G2.out (by simp)) HW.out k hk)
    have Hxw := Lib.hid (HW.out ds[k] (List.getElem_mem hk))
    have E2 := Lib.hid e2
    obtain ⟨x, hx⟩ : ∃ x, ds[k] = x := ⟨_, rfl⟩
    rw [hx] at R Hxw E2
    have d1 : ¬ ((k : Int) < 0) := by omega
    clear hr e1 e2 hx e5 hne hgB
    go_wp2_with (first | (refine wpList_load_part rfl 38 _ rfl g (o + k * 200) rfl x.cells _ R.out Try.underlying38 rfl (sizeLt x Hxw.out) ?_) | (refine wpList_store_whole rfl 38 _ _ rfl lb rfl x.cells zLt.cells 38 rfl B2.out (by rw [x.cells_length Hxw.out]; rfl) x.one (sizeLt x Hxw.out) ?_))
    intro w3 g3 s3 b3
    have B3 := Lib.hid b3; have G3 := Lib.hid (grown_new G2.out g3 Hlb.out); clear b3 g3 s3
    go_wp2_with fail
    refine bodyPost_ret (results_cell_tmp rfl _ _ ⟨lb, 0, none⟩ _ _ rfl rfl (run_loadVar_part _ _ _ 38 x.cells _ B3.out.row Try.underlying38 rfl (sizeLt x Hxw.out))) rfl ?_
    rw [E2.out]
    exact ⟨rfl, G3.out⟩
  · rw [e1]
    have E2 := Lib.hid e2
    clear e1 e2
    go_wp2_with (first | (refine wpList_build_eq rfl 38 _ rfl [] (by kernel_rfl) zLt.cells zLt_built ?_) | (refine wpList_store_whole rfl 38 _ _ rfl lb rfl zLt.cells zLt.cells 38 rfl B2.out rfl zLt.one (sizeLt _ zLt_wf) ?_))
    intro w3 g3 s3 b3
    have B3 := Lib.hid b3; have G3 := Lib.hid (grown_new G2.out g3 Hlb.out); clear b3 g3 s3
    go_wp2_with fail
    refine bodyPost_ret (results_cell_tmp rfl _ _ ⟨lb, 0, none⟩ _ _ rfl rfl (run_loadVar_part _ _ _ 38 zLt.cells _ B3.out.row Try.underlying38 rfl (sizeLt _ zLt_wf))) rfl ?_
    rw [E2.out]
    exact ⟨rfl, G3.out⟩

set_option maxHeartbeats 1000000 in
theorem of_ok {B : Nat} (v : Value) (ds : List LtR) (h : Int) (w : World) (hv : RdS B w v ds.length 200 (ltsCells ds)) (hB : B ≤ w.heap.size) (hw : ∀ d ∈ ds, d.wf) :
    Calls Try.prog 14 #[v, .int .i64 h] w fun e w' => e = .returned (.int .i64 (idxL ds h)) ∧ w' = w := by
  have hlen := hv.le
  obtain ⟨ao, cp, rfl⟩ := hv.shape
  have HV := Lib.hid hv; have HB := Lib.hid hB; have HW := Lib.hid hw
  unfold maxLen at hlen
  clear hv hB hw
  go_enter Try.func14, Try.ntmps14
  go_wp2
  go_loop [5] (fun i => ∃ k : Nat, k ≤ ds.length ∧ i = .int .i64 k ∧ (∀ j (hj : j < k) (hl : j < ds.length), ds[j].header.height ≠ h)) (fun i => ds.length - (intOf i).toNat)
  case atStart => exact ⟨0, Nat.zero_le _, rfl, fun j hj => absurd hj (Nat.not_lt_zero _)⟩
  case round =>
    obtain ⟨k, hk, rfl, hn⟩ := hrel
    have Hn := Lib.hid hn; clear hn
    by_cases hlt : k < ds.length
    · obtain ⟨g, o, c, e, _, _, hgB, hr⟩ := HV.out.at_ (by omega)
      injection e with e1 e2 e3
      subst e1
      have a1 := LtR.height_at (LtR.elem hr HW.out k hlt)
      obtain ⟨x, hx⟩ : ∃ x, ds[k] = x := ⟨_, rfl⟩
      rw [hx] at a1
      have Hx := Lib.hid hx
      clear hr hx e3
      cases hq : (x.header.height == h) with
      | true =>
        have hq' : x.header.height = h := by simpa using hq
        have E := Lib.hid (idxL_hit k hlt (by rw [Hx.out]; exact hq') (fun j hj => Hn.out j hj (by omega)))
        clear hq'
        go_wp2
        go_ret
        rw [E.out]
        exact ⟨rfl, rfl⟩
      | false =>
        have hq' : x.header.height ≠ h := by simpa using hq
        have Q := Lib.hid hq'
        clear hq'
        go_wp2
        refine ⟨⟨k + 1, by omega, by go_num, ?_⟩, by simp [intOf]; omega⟩
        intro j hj hl
        by_cases e : j = k
        · subst e; rw [Hx.out]; exact Q.out
        · exact Hn.out j (by omega) hl
    · obtain rfl : k = ds.length := by omega
      have E := Lib.hid (idxL_miss (fun j hj => Hn.out j hj hj))
      go_wp2
      go_ret
      rw [E.out]
      exact ⟨rfl, rfl⟩

end Go.Proofs.Ytdegpapeanjboaa
