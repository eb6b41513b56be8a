/- Walks: detect.at, nuncioref17.of, nunciolaw15.Few, nunciolaw17.few. -/
import Derived.Test.YtdegpapeanjboaaDv
import Derived.Test.YtdegpapeanjboaaBuild
import Derived.Deep.QuietTactic
import Derived.BigQuiet
namespace Go.Proofs.Ytdegpapeanjboaa
open Go.RowKit
set_option maxRecDepth 100000

theorem ret_bool {a b : Bool} (h : b = a) : Ending.returned (.bool a) = .returned (.bool b) := by rw [h]
theorem sizeLt (l : LtR) (h : l.wf) : (Try.prog.info? 38).map (·.size) = some l.cells.length := by rw [l.cells_length h]; kernel_rfl
theorem LtR.height_at {w : World} {g o : Nat} {l : LtR} (h : RowAt w g o l.cells) : w.cell? ⟨g, o + 1, none⟩ = some (.int .i64 l.header.height) := h 1 _ rfl
theorem LtR.elem {w : World} {g o : Nat} {ds : List LtR} (h : RowAt w g o (ltsCells ds)) (hw : ∀ d ∈ ds, d.wf) (i : Nat) (hi : i < ds.length) : RowAt w g (o + i * 200) ds[i].cells :=
  RowAt.elem h (fun d hd => d.cells_length (hw d hd)) i hi

/-- the place of the first of a height -/
def idxL (l : List LtR) (h : Int) : Int := match l.findIdx? (fun x => decide (x.header.height = h)) with
  | some k => (k : Int)
  | none => -1
theorem idxL_hit {l : List LtR} {h : Int} (k : Nat) (hk : k < l.length) (e : l[k].header.height = h) (hn : ∀ j (hj : j < k), (l[j]'(by omega)).header.height ≠ h) : idxL l h = (k : Int) := by
  unfold idxL
  rw [show l.findIdx? (fun x => decide (x.header.height = h)) = some k from List.findIdx?_eq_some_iff_getElem.2 ⟨hk, by simpa using e, fun j hj => by simpa using hn j hj⟩]
theorem idxL_miss {l : List LtR} {h : Int} (hn : ∀ j (hj : j < l.length), l[j].header.height ≠ h) : idxL l h = -1 := by
  unfold idxL
  rw [show l.findIdx? (fun x => decide (x.header.height = h)) = none from List.findIdx?_eq_none_iff.2 fun x hx => by
    obtain ⟨j, hj, rfl⟩ := List.getElem_of_mem hx
    simpa using hn j hj]
theorem idxL_cases (l : List LtR) (h : Int) : (∃ (k : Nat) (hk : k < l.length), idxL l h = (k : Int) ∧ atL l h = some l[k]) ∨ (idxL l h = -1 ∧ atL l h = none) := by
  cases e : l.findIdx? (fun x => decide (x.header.height = h)) with
  | none =>
    refine Or.inr ⟨by unfold idxL; rw [e], ?_⟩
    unfold atL
    rw [List.find?_eq_none]
    intro x hx
    have := List.findIdx?_eq_none_iff.1 e x hx
    simpa using this
  | some k =>
    obtain ⟨hk, h1, h2⟩ := List.findIdx?_eq_some_iff_getElem.1 e
    refine Or.inl ⟨k, hk, by unfold idxL; rw [e], ?_⟩
    unfold atL
    rw [List.find?_eq_some_iff_getElem]
    exact ⟨h1, k, hk, rfl, fun j hj => by simpa using h2 j hj⟩

theorem at1_ok (x : LtR) (hb : Nat) (h : Int) (w : World) (hx : x.wf) (hc : RowAt w hb 0 [.int .i64 h]) :
    Calls Try.prog 22 #[.agg x.cells.toArray, .pointer (some ⟨hb, 0, none⟩)] w fun e w' => e = .returned (.bool (decide (x.header.height = h))) ∧ w.grownBy w' none := by
  have HX := Lib.hid hx; have HC := Lib.hid hc
  clear hx hc
  go_enter Try.func22, Try.ntmps22
  go_wp2_with (first | (refine wpList_box_as rfl 38 _ rfl x.cells rfl ?_))
  intro w1 b1 g1 s1
  have a1 := LtR.height_at b1.row
  rw [Nat.zero_add] at a1
  have c1 := (HC.out.grown g1 (by simp)) 0 _ rfl
  have G1 := Lib.hid g1
  clear b1 g1 s1
  go_wp2
  go_ret
  exact ⟨rfl, G1.out⟩

set_option maxHeartbeats 1000000 in
theorem IndexFunc_ok {B : Nat} (v : Value) (ds : List LtR) (hb : Nat) (h : Int) (w : World) (hv : RdS B w v ds.length 200 (ltsCells ds)) (hB : B ≤ w.heap.size) (hw : ∀ d ∈ ds, d.wf) (hc : RowAt w hb 0 [.int .i64 h]) :
    Calls Try.prog 21 #[v, .func (.func 22) #[] #[.pointer (some ⟨hb, 0, none⟩)]] w fun e w' => e = .returned (.int .i64 (idxL ds h)) ∧ w.grownBy w' none := by
  have hlen := hv.le
  obtain ⟨ao, cp, rfl⟩ := hv.shape
  have HV := Lib.hid hv; have HB := Lib.hid hB; have HW := Lib.hid hw; have HC := Lib.hid hc
  unfold maxLen at hlen
  clear hv hB hw hc
  go_enter Try.func21, Try.ntmps21
  go_wp2
  go_loopw [5, 8] (fun _ i wr => ∃ k : Nat, k ≤ ds.length ∧ i = .int .i64 k ∧ (∀ j (hj : j < k) (hl : j < ds.length), ds[j].header.height ≠ h) ∧ w.grownBy wr none) (fun _ i _ => ds.length - (intOf i).toNat)
  case atStart => exact ⟨0, Nat.zero_le _, rfl, fun j hj => absurd hj (Nat.not_lt_zero _), World.grownBy.refl _ _⟩
  case round =>
    obtain ⟨k, hk, rfl, hn, hg⟩ := hrel
    have Hn := Lib.hid hn; have Hg := Lib.hid hg; clear hn hg
    by_cases hlt : k < ds.length
    · obtain ⟨g, o, c, e, _, _, hgB, hr⟩ := HV.out.at_ (by omega)
      injection e with e1 e2 e3
      subst e1
      have R := Lib.hid (LtR.elem (hr.grown Hg.out (by simp)) HW.out k hlt)
      have hxw := HW.out ds[k] (List.getElem_mem hlt)
      obtain ⟨x, hx⟩ : ∃ x, x = ds[k] := ⟨_, rfl⟩
      rw [← hx] at R hxw
      have hcall := at1_ok x hb h (w.drewN 0) hxw
      have Hx := Lib.hid hx; have Hxw := Lib.hid hxw
      clear hr hx hxw hcall e3
      go_wp2_with (refine wpList_load_part rfl 38 _ rfl g (o + k * 200) rfl x.cells _ R.out Try.underlying38 rfl (sizeLt x Hxw.out) ?_)
      refine (at1_ok x hb h _ Hxw.out (HC.out.grown Hg.out (by simp))).mono ?_
      rintro e w2 ⟨rfl, g2⟩
      have G2 := Lib.hid (Lib.grownBy_trans Hg.out g2)
      clear g2
      cases hq : decide (x.header.height = h) with
      | true =>
        have hq' : x.header.height = h := by simpa using hq
        have E := Lib.hid (idxL_hit k hlt (by rw [← Hx.out]; exact hq') (fun j hj => Hn.out j hj (by omega)))
        clear hq hq'
        go_wp2
        go_ret
        rw [E.out]
        exact ⟨rfl, G2.out⟩
      | false =>
        have hq' : x.header.height ≠ h := by simpa using hq
        have Q := Lib.hid hq'
        clear hq hq'
        go_wp2
        refine ⟨⟨k + 1, by omega, by go_num, ?_, G2.out⟩, by simp [intOf]; omega⟩
        intro j hj hl
        by_cases e : j = k
        · subst e; rw [← Hx.out]; exact Q.out
        · exact Hn.out j (by omega) hl
    · obtain rfl : k = ds.length := by omega
      have E := Lib.hid (idxL_miss (fun j hj => Hn.out j hj hj))
      go_wp2
      go_ret
      rw [E.out]
      exact ⟨rfl, Hg.out⟩

end Go.Proofs.Ytdegpapeanjboaa
