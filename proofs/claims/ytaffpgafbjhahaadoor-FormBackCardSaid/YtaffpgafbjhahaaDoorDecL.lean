/- Walks: forms.takeSet. -/
import Derived.Test.YtaffpgafbjhahaaDoorEncode2
import Derived.Test.YtaffpgafbjhahaaDoorApp
namespace Go.Proofs.YtaffpgafbjhahaaDoor
open Go.RowKit
set_option maxRecDepth 100000

theorem IsR.below {w w' : World} {p B : Nat} {st : RS} (h : IsR w p st) (hb : Below B w w') (hp : p < B) : IsR w' p st := by
  have hc : ∀ j, w'.cell? ⟨p, j, none⟩ = w.cell? ⟨p, j, none⟩ := fun j => hb.cell (p := ⟨p, j, none⟩) hp
  have hf : ∀ j, w'.frozen? ⟨p, j, none⟩ = w.frozen? ⟨p, j, none⟩ := fun j => hb.frozen (p := ⟨p, j, none⟩) hp
  obtain ⟨h1, h2, h⟩ := h
  refine ⟨(hf 0).trans h1, (hf 1).trans h2, ?_⟩
  cases st with
  | none => obtain ⟨⟨ao, n, c, h3⟩, h4⟩ := h; exact ⟨⟨ao, n, c, (hc 0).trans h3⟩, (hc 1).trans h4⟩
  | some l =>
    obtain ⟨h3, ao, c, h4, h5, h6, h7⟩ := h
    refine ⟨(hc 1).trans h3, ao, c, (hc 0).trans h4, h5, h6, ?_⟩
    rcases h7 with h7 | ⟨g, o, e, hp2, hr⟩
    · exact Or.inl h7
    · exact Or.inr ⟨g, o, e, hp2, hr.below hb (by omega)⟩
theorem grown_below {w w1 w2 : World} {row : Option Nat} (h : w.grownBy w1 row) (k : Below w.heap.size w1 w2) : w.grownBy w2 row :=
  ⟨k.os.trans h.os, k.tape.trans h.tape, k.output.trans h.output, Nat.le_trans h.size k.size, fun i hi hr => (k.block i hi).trans (h.block i hi hr)⟩
/-- an own row, read -/
theorem rds_of_own {w : World} {B k n : Nat} {e : TypeId} {v : Value} {cs : List Value} (h : w.ownsRow B e k v n cs) : RdS w.heap.size w v n k cs := by
  obtain ⟨h1, ⟨rfl, h0⟩ | ⟨g, cap, cur, rfl, hg, hblk, hle, hcm, hcs, htk⟩⟩ := h
  · exact ⟨none, 0, by rw [h0], by omega, by unfold maxLen; omega, h1, Or.inl ⟨rfl, h0, rfl⟩⟩
  · refine ⟨_, cap, rfl, hle, hcm, h1, Or.inr ⟨g, 0, rfl, Lib.lt_of_heap hblk, ?_⟩⟩
    intro j v hj
    rw [Nat.zero_add, Lib.cell_of_heap hblk, ← Array.getElem?_toList]
    have hlt : j < n * k := by have := (List.getElem?_eq_some_iff.1 hj).1; omega
    rw [← htk, List.getElem?_take_of_lt hlt] at hj
    exact hj

def rdVals : Nat → RS → List ValD × RS
  | 0, s => ([], s)
  | k + 1, s => ((rdVals k s).1 ++ [⟨((rdWord (rdVals k s).2).1 : Nat), (rdNum (rdWord (rdVals k s).2).2).1⟩], (rdNum (rdWord (rdVals k s).2).2).2)
theorem rdVals_len (k : Nat) (s : RS) : (rdVals k s).1.length = k := by
  induction k with
  | zero => rfl
  | succ k ih => simp [rdVals, ih]
theorem rdVals_wf (k : Nat) (s : RS) : ∀ v ∈ (rdVals k s).1, v.wf := by
  induction k with
  | zero => simp [rdVals]
  | succ k ih =>
    intro v hv
    simp only [rdVals, List.mem_append, List.mem_cons, List.not_mem_nil, or_false] at hv
    rcases hv with hv | rfl
    · exact ih v hv
    · exact ⟨rdWord_R _, rdNum_R _⟩
/-- validators, behind their kind -/
def rdSet (s : RS) : List ValD × RS := rdVals (rdCount 64 s).1.toNat (rdCount 64 s).2
theorem rdCount_R (most : Int) (s : RS) (hm : 0 ≤ most) : 0 ≤ (rdCount most s).1 ∧ (rdCount most s).1 ≤ most := by
  unfold rdCount
  cases s with
  | none => exact ⟨Int.le_refl _, hm⟩
  | some l =>
    dsimp only
    split
    · rename_i h; exact ⟨h.2.1, h.2.2⟩
    · exact ⟨Int.le_refl _, hm⟩
theorem rdSet_len (s : RS) : (rdSet s).1.length ≤ 64 := by
  have := rdCount_R 64 s (by omega)
  rw [rdSet, rdVals_len]; omega
theorem val_info : (Tryd.prog.info? 149).map (fun i => (i.zero, i.size, i.bytes)) = some (some (.agg #[.int .u64 0, .int .i64 0]), 2, 16) := by kernel_rfl

theorem own_mono {w : World} {B B' k n : Nat} {e : TypeId} {v : Value} {cs : List Value} (h : w.ownsRow B e k v n cs) (hB : B' ≤ B) : w.ownsRow B' e k v n cs := by
  obtain ⟨h1, h2⟩ := h
  refine ⟨h1, ?_⟩
  rcases h2 with h2 | ⟨g, cap, cur, hv, hg, r⟩
  · exact Or.inl h2
  · exact Or.inr ⟨g, cap, cur, hv, by omega, r⟩
theorem own_stays {w w' : World} {B k n : Nat} {e : TypeId} {v : Value} {cs : List Value} (h : w.ownsRow B e k v n cs) (hs : ∀ b, B ≤ b → b < w.heap.size → w'.heap[b]? = w.heap[b]?) : w'.ownsRow B e k v n cs := by
  obtain ⟨h1, h2⟩ := h
  refine ⟨h1, ?_⟩
  rcases h2 with h2 | ⟨g, cap, cur, hv, hg, hh, r⟩
  · exact Or.inl h2
  · exact Or.inr ⟨g, cap, cur, hv, hg, (hs g hg (Lib.lt_of_heap hh)).trans hh, r⟩
theorem own_ne {w : World} {B k n : Nat} {e : TypeId} {v : Value} {cs : List Value} (h : w.ownsRow B e k v n cs) {p : Nat} (hp : p < B) : v.ownBlock = none ∨ v.ownBlock ≠ some p := by
  right
  intro e2
  have := (h.lt p e2).1
  omega
theorem setCells_snoc (k : Nat) (s : RS) : setCells (rdVals (k + 1) s).1 = setCells (rdVals k s).1 ++ [.int .u64 ((rdWord (rdVals k s).2).1 : Nat), .int .i64 (rdNum (rdWord (rdVals k s).2).2).1] := by
  simp [rdVals, setCells, ValD.cells]

set_option maxHeartbeats 1000000 in
theorem takeSet_yes (p : Nat) (st : RS) (w : World) (h : IsR w p st) (hk : (rdNum st).1 = 3) :
    Calls Tryd.prog 93 #[.pointer (some ⟨p, 0, none⟩)] w fun e w' => ∃ v, e = .returned v ∧ w'.ownsRow w.heap.size 149 2 v (rdSet (rdNum st).2).1.length (setCells (rdSet (rdNum st).2).1) ∧ IsR w' p (rdSet (rdNum st).2).2 ∧ w.grownBy w' (some p) := by
  have H := Lib.hid h; have Hk := Lib.hid hk
  have hlt := h.lt
  clear h hk
  go_enter Tryd.func93, Tryd.ntmps93
  go_wp2_with fail
  refine (kind_yes p 3 _ _ H.out Hk.out).mono ?_
  rintro e w2 ⟨rfl, h1, h2⟩
  obtain ⟨s1, hs1⟩ : ∃ s1, (rdNum st).2 = s1 := ⟨_, rfl⟩
  rw [hs1] at h1
  have R := Lib.hid h1; have G := Lib.hid h2; have Hs1 := Lib.hid hs1; clear h1 h2 hs1
  go_wp2_with fail
  refine (RCount p 64 _ _ R.out).mono ?_
  rintro e w3 ⟨rfl, h1, h2⟩
  have hc := rdCount_R 64 s1 (by omega)
  obtain ⟨N, hN⟩ := Int.eq_ofNat_of_zero_le hc.1
  have hd : rdSet s1 = rdVals N (rdCount 64 s1).2 := by unfold rdSet; rw [hN]; rfl
  rw [hN] at hc ⊢
  obtain ⟨s2, hs2⟩ : ∃ s2, (rdCount 64 s1).2 = s2 := ⟨_, rfl⟩
  rw [hs2] at h1 hd
  replace R := Lib.hid h1; replace G := Lib.hid (Lib.grownBy_trans G.out h2); have Hd := Lib.hid hd
  have hN64 : N ≤ 64 := by omega
  clear h1 h2 hs2 hN hd hc
  go_wp2_with fail
  go_loopw [3, 8] (fun v i wr => ∃ k : Nat, k ≤ N ∧ i = .int .i64 k ∧ wr.ownsRow w.heap.size 149 2 v k (setCells (rdVals k s2).1) ∧ IsR wr p (rdVals k s2).2 ∧ w.grownBy wr (some p)) (fun _ i _ => N - (intOf i).toNat)
  case atStart => exact ⟨0, Nat.zero_le _, rfl, World.ownsRow_nil _ _ _ _, R.out, G.out⟩
  case round =>
    obtain ⟨k, hk, rfl, ho, hr, hg⟩ := hrel
    have Ho := Lib.hid ho; have Hr := Lib.hid hr; have Hg := Lib.hid hg; clear ho hr hg
    by_cases hlt2 : k < N
    · go_wp2_with fail
      refine (RWord p _ _ Hr.out).mono ?_
      rintro e w4 ⟨rfl, h1, h2⟩
      have R4 := Lib.hid h1; have G4 := Lib.hid h2; clear h1 h2
      go_wp2_with fail
      refine (RNumber p _ _ R4.out).mono ?_
      rintro e w5 ⟨rfl, h1, h2⟩
      have R5 := Lib.hid h1; have G5 := Lib.hid (Lib.grownBy_trans G4.out h2); clear h1 h2
      have Ho5 := Lib.hid (World.ownsRow.kept Ho.out G5.out (own_ne Ho.out (by omega)))
      go_wp2_with (refine wpList_app_new _ rfl _ _ 69 rfl w.heap.size 149 _ 2 16 Tryd.underlying69 val_info rfl _ k _ rfl Ho5.out rfl [_, _] rfl (by simp [Value.oneCell']) (by omega) (by omega) (Nat.le_trans Hg.out.size G5.out.size) ?_; intro v' w6 o6 b6 _)
      have Z := Lib.hid (show w6.ownsRow w.heap.size 149 2 v' (k + 1) (setCells (rdVals (k + 1) s2).1) by rw [setCells_snoc]; exact o6)
      have Y := Lib.hid (show IsR w6 p (rdVals (k + 1) s2).2 from R5.out.below b6 hlt)
      refine ⟨⟨k + 1, by omega, by go_num, Z.out, Y.out, grown_below (Lib.grownBy_trans Hg.out G5.out) b6⟩, by simp [intOf]; omega⟩
    · obtain rfl : k = N := by omega
      go_wp2_with fail
      go_ret
      rw [Hs1.out, Hd.out, rdVals_len]
      exact ⟨_, rfl, Ho.out, Hr.out, Hg.out⟩

end Go.Proofs.YtaffpgafbjhahaaDoor
