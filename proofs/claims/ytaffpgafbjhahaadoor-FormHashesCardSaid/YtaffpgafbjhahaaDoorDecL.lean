/- Walks: forms.takeSet. Walks: forms.takeSet's throw, takeCommit. -/
import Derived.Test.YtaffpgafbjhahaaDoorEncode
import Derived.Test.YtaffpgafbjhahaaDoorApp
import Derived.Test.YtaffpgafbjhahaaDoorBuild
import Derived.Deep.RegionLaw
import Derived.Deep.CutRange
namespace Go.Proofs.YtaffpgafbjhahaaDoor
open Go.RowKit
set_option maxRecDepth 100000

theorem IsR.below {w w' : World} {p B : Nat} {st : RS} (h : IsR w p st) (hb : Below B w w') (hp : p < B) : IsR w' p st := by
  have hc : ∀ j, w'.cell? ⟨p, j, none⟩ = w.cell? ⟨p, j, none⟩ := fun j => hb.cell (p := ⟨p, j, none⟩) hp
  have hf : ∀ j, w'.frozen? ⟨p, j, none⟩ = w.frozen? ⟨p, j, none⟩ := fun j => hb.frozen (p := ⟨p, j, none⟩) hp
  obtain ⟨h1, h2, h⟩ := h
  refine ⟨(hf 0).trans h1, (hf 1).trans h2, ?_⟩
  cases st with
  | none => obtain ⟨⟨ao, n, c, h3⟩, h4⟩ := h; exact ⟨⟨ao, n, c, (hc 0).trans h3⟩, (hc 1).trans h4⟩
  | some l =>
    obtain ⟨h3, ao, c, h4, h5, h6, h7⟩ := h
    refine ⟨(hc 1).trans h3, ao, c, (hc 0).trans h4, h5, h6, ?_⟩
    rcases h7 with h7 | ⟨g, o, e, hp2, hr⟩
    · exact Or.inl h7
    · exact Or.inr ⟨g, o, e, hp2, hr.below hb (by omega)⟩
theorem grown_below {w w1 w2 : World} {row : Option Nat} (h : w.grownBy w1 row) (k : Below w.heap.size w1 w2) : w.grownBy w2 row :=
  ⟨k.os.trans h.os, k.tape.trans h.tape, k.output.trans h.output, Nat.le_trans h.size k.size, fun i hi hr => (k.block i hi).trans (h.block i hi hr)⟩
/-- an own row, read -/
theorem rds_of_own {w : World} {B k n : Nat} {e : TypeId} {v : Value} {cs : List Value} (h : w.ownsRow B e k v n cs) : RdS w.heap.size w v n k cs := by
  obtain ⟨h1, ⟨rfl, h0⟩ | ⟨g, cap, cur, rfl, hg, hblk, hle, hcm, hcs, htk⟩⟩ := h
  · exact ⟨none, 0, by rw [h0], by omega, by unfold maxLen; omega, h1, Or.inl ⟨rfl, h0, rfl⟩⟩
  · refine ⟨_, cap, rfl, hle, hcm, h1, Or.inr ⟨g, 0, rfl, Lib.lt_of_heap hblk, ?_⟩⟩
    intro j v hj
    rw [Nat.zero_add, Lib.cell_of_heap hblk, ← Array.getElem?_toList]
    have hlt : j < n * k := by have := (List.getElem?_eq_some_iff.1 hj).1; omega
    rw [← htk, List.getElem?_take_of_lt hlt] at hj
    exact hj

def rdVals : Nat → RS → List ValD × RS
  | 0, s => ([], s)
  | k + 1, s => ((rdVals k s).1 ++ [⟨((rdWord (rdVals k s).2).1 : Nat), (rdNum (rdWord (rdVals k s).2).2).1⟩], (rdNum (rdWord (rdVals k s).2).2).2)
theorem rdVals_len (k : Nat) (s : RS) : (rdVals k s).1.length = k := by
  induction k with
  | zero => rfl
  | succ k ih => simp [rdVals, ih]
theorem rdVals_wf (k : Nat) (s : RS) : ∀ v ∈ (rdVals k s).1, v.wf := by
  induction k with
  | zero => simp [rdVals]
  | succ k ih =>
    intro v hv
    simp only [rdVals, List.mem_append, List.mem_cons, List.not_mem_nil, or_false] at hv
    rcases hv with hv | rfl
    · exact ih v hv
    · exact ⟨rdWord_R _, rdNum_R _⟩
/-- validators, behind their kind -/
def rdSet (s : RS) : List ValD × RS := rdVals (rdCount 64 s).1.toNat (rdCount 64 s).2
theorem rdCount_R (most : Int) (s : RS) (hm : 0 ≤ most) : 0 ≤ (rdCount most s).1 ∧ (rdCount most s).1 ≤ most := by
  unfold rdCount
  cases s with
  | none => exact ⟨Int.le_refl _, hm⟩
  | some l =>
    dsimp only
    split
    · rename_i h; exact ⟨h.2.1, h.2.2⟩
    · exact ⟨Int.le_refl _, hm⟩
theorem rdSet_len (s : RS) : (rdSet s).1.length ≤ 64 := by
  have := rdCount_R 64 s (by omega)
  rw [rdSet, rdVals_len]; omega
theorem val_info : (Tryd.prog.info? 149).map (fun i => (i.zero, i.size, i.bytes)) = some (some (.agg #[.int .u64 0, .int .i64 0]), 2, 16) := by kernel_rfl

theorem own_mono {w : World} {B B' k n : Nat} {e : TypeId} {v : Value} {cs : List Value} (h : w.ownsRow B e k v n cs) (hB : B' ≤ B) : w.ownsRow B' e k v n cs := by
  obtain ⟨h1, h2⟩ := h
  refine ⟨h1, ?_⟩
  rcases h2 with h2 | ⟨g, cap, cur, hv, hg, r⟩
  · exact Or.inl h2
  · exact Or.inr ⟨g, cap, cur, hv, by omega, r⟩
theorem own_stays {w w' : World} {B k n : Nat} {e : TypeId} {v : Value} {cs : List Value} (h : w.ownsRow B e k v n cs) (hs : ∀ b, B ≤ b → b < w.heap.size → w'.heap[b]? = w.heap[b]?) : w'.ownsRow B e k v n cs := by
  obtain ⟨h1, h2⟩ := h
  refine ⟨h1, ?_⟩
  rcases h2 with h2 | ⟨g, cap, cur, hv, hg, hh, r⟩
  · exact Or.inl h2
  · exact Or.inr ⟨g, cap, cur, hv, hg, (hs g hg (Lib.lt_of_heap hh)).trans hh, r⟩
theorem own_ne {w : World} {B k n : Nat} {e : TypeId} {v : Value} {cs : List Value} (h : w.ownsRow B e k v n cs) {p : Nat} (hp : p < B) : v.ownBlock = none ∨ v.ownBlock ≠ some p := by
  right
  intro e2
  have := (h.lt p e2).1
  omega
theorem setCells_snoc (k : Nat) (s : RS) : setCells (rdVals (k + 1) s).1 = setCells (rdVals k s).1 ++ [.int .u64 ((rdWord (rdVals k s).2).1 : Nat), .int .i64 (rdNum (rdWord (rdVals k s).2).2).1] := by
  simp [rdVals, setCells, ValD.cells]

set_option maxHeartbeats 1000000 in
theorem takeSet_yes (p : Nat) (st : RS) (w : World) (h : IsR w p st) (hk : (rdNum st).1 = 3) :
    Calls Tryd.prog 93 #[.pointer (some ⟨p, 0, none⟩)] w fun e w' => ∃ v, e = .returned v ∧ w'.ownsRow w.heap.size 149 2 v (rdSet (rdNum st).2).1.length (setCells (rdSet (rdNum st).2).1) ∧ IsR w' p (rdSet (rdNum st).2).2 ∧ w.grownBy w' (some p) := by
  have H := Lib.hid h; have Hk := Lib.hid hk
  have hlt := h.lt
  clear h hk
  go_enter Tryd.func93, Tryd.ntmps93
  go_wp2_with fail
  refine (kind_yes p 3 _ _ H.out Hk.out).mono ?_
  rintro e w2 ⟨rfl, h1, h2⟩
  obtain ⟨s1, hs1⟩ : ∃ s1, (rdNum st).2 = s1 := ⟨_, rfl⟩
  rw [hs1] at h1
  have R := Lib.hid h1; have G := Lib.hid h2; have Hs1 := Lib.hid hs1; clear h1 h2 hs1
  go_wp2_with fail
  refine (RCount p 64 _ _ R.out).mono ?_
  rintro e w3 ⟨rfl, h1, h2⟩
  have hc := rdCount_R 64 s1 (by omega)
  obtain ⟨N, hN⟩ := Int.eq_ofNat_of_zero_le hc.1
  have hd : rdSet s1 = rdVals N (rdCount 64 s1).2 := by unfold rdSet; rw [hN]; rfl
  rw [hN] at hc ⊢
  obtain ⟨s2, hs2⟩ : ∃ s2, (rdCount 64 s1).2 = s2 := ⟨_, rfl⟩
  rw [hs2] at h1 hd
  replace R := Lib.hid h1; replace G := Lib.hid (Lib.grownBy_trans G.out h2); have Hd := Lib.hid hd
  have hN64 : N ≤ 64 := by omega
  clear h1 h2 hs2 hN hd hc
  go_wp2_with fail
  go_loopw [3, 8] (fun v i wr => ∃ k : Nat, k ≤ N ∧ i = .int .i64 k ∧ wr.ownsRow w.heap.size 149 2 v k (setCells (rdVals k s2).1) ∧ IsR wr p (rdVals k s2).2 ∧ w.grownBy wr (some p)) (fun _ i _ => N - (intOf i).toNat)
  case atStart => exact ⟨0, Nat.zero_le _, rfl, World.ownsRow_nil _ _ _ _, R.out, G.out⟩
  case round =>
    obtain ⟨k, hk, rfl, ho, hr, hg⟩ := hrel
    have Ho := Lib.hid ho; have Hr := Lib.hid hr; have Hg := Lib.hid hg; clear ho hr hg
    by_cases hlt2 : k < N
    · go_wp2_with fail
      refine (RWord p _ _ Hr.out).mono ?_
      rintro e w4 ⟨rfl, h1, h2⟩
      have R4 := Lib.hid h1; have G4 := Lib.hid h2; clear h1 h2
      go_wp2_with fail
      refine (RNumber p _ _ R4.out).mono ?_
      rintro e w5 ⟨rfl, h1, h2⟩
      have R5 := Lib.hid h1; have G5 := Lib.hid (Lib.grownBy_trans G4.out h2); clear h1 h2
      have Ho5 := Lib.hid (World.ownsRow.kept Ho.out G5.out (own_ne Ho.out (by omega)))
      go_wp2_with (refine wpList_app_new _ rfl _ _ 69 rfl w.heap.size 149 _ 2 16 Tryd.underlying69 val_info rfl _ k _ rfl Ho5.out rfl [_, _] rfl (by simp [Value.oneCell']) (by omega) (by omega) (Nat.le_trans Hg.out.size G5.out.size) ?_; intro v' w6 o6 b6 _)
      have Z := Lib.hid (show w6.ownsRow w.heap.size 149 2 v' (k + 1) (setCells (rdVals (k + 1) s2).1) by rw [setCells_snoc]; exact o6)
      have Y := Lib.hid (show IsR w6 p (rdVals (k + 1) s2).2 from R5.out.below b6 hlt)
      refine ⟨⟨k + 1, by omega, by go_num, Z.out, Y.out, grown_below (Lib.grownBy_trans Hg.out G5.out) b6⟩, by simp [intOf]; omega⟩
    · obtain rfl : k = N := by omega
      go_wp2_with fail
      go_ret
      rw [Hs1.out, Hd.out, rdVals_len]
      exact ⟨_, rfl, Ho.out, Hr.out, Hg.out⟩

set_option maxHeartbeats 400000 in
theorem takeSet_no (p : Nat) (st : RS) (w : World) (h : IsR w p st) (hk : (rdNum st).1 ≠ 3) :
    Calls Tryd.prog 93 #[.pointer (some ⟨p, 0, none⟩)] w fun e w' => e = .panicked wrongP ∧ w.grownBy w' (some p) := by
  have H := Lib.hid h; have Hk := Lib.hid hk
  clear h hk
  go_enter Tryd.func93, Tryd.ntmps93
  go_wp2_with fail
  refine (kind_no p 3 _ _ H.out Hk.out).mono ?_
  rintro e w2 ⟨rfl, h2⟩
  exact ⟨rfl, rfl, h2⟩

section
variable {P : Program}
/-- a struct that is built of its first parts; what is behind them is zero -/
theorem built_pre (t : TypeId) (fields : Array Field) (places : List (Nat × Nat)) (vs : List Value) (z mid post : List Value) (hu : P.underlying t = some (.struct fields))
    (hp : fields.toList.mapM (fun f => (P.info? f.type).map fun i => (f.offset, i.size)) = some places)
    (hz : (P.info? t).map (fun i => i.zero.map (fun v => v.cells)) = some (some z.toArray)) (he : z = mid ++ post) (hm : mid.length = (flatCells vs).length)
    (hl : Laid (places.toArray[·]?) 0 0 vs) : P.built t ((vs.zipIdx 0).map fun x => (x.2, x.1)) = some (flatCells vs ++ post).toArray := by
  subst he
  unfold Program.built
  cases hi : P.info? t with
  | none => simp [hi] at hz
  | some it =>
    cases hzz : it.zero with
    | none => simp [hi, hzz] at hz
    | some v =>
      have hs : v.cells = (mid ++ post).toArray := by simpa [hi, hzz] using hz
      simp only [hu, hp, hzz, hs]
      have := fill_laid (places.toArray[·]?) vs 0 [] mid post hl hm
      simpa using this
end
def ZCommit : List Value := [.int .i64 0, .int .i64 0] ++ Lib.byteCells (List.replicate 32 0) ++ [.slice none 0 0]
theorem ZCommit_info : (Tryd.prog.info? 68).map (fun i => i.zero.map (fun v => v.cells)) = some (some ZCommit.toArray) := by kernel_rfl
theorem ZCommit_one : ∀ v ∈ ZCommit, v.oneCell' = true := fun v hv => List.all_eq_true.1 (show ZCommit.all (·.oneCell') = true by kernel_rfl) v hv
def commitV (h r : Int) (l : List UInt8) (v : Value) : List Value := [.int .i64 h, .int .i64 r] ++ Lib.byteCells l ++ [v]
theorem commitV_len (h r : Int) (l : List UInt8) (v : Value) (hl : l.length = 32) : (commitV h r l v).length = 35 := by simp [commitV, Lib.byteCells_length, hl]
theorem commitV_set (h r : Int) (l : List UInt8) (v u : Value) (hl : l.length = 32) : (commitV h r l v).set 34 u = commitV h r l u := by
  simp [commitV, List.set_append, Lib.byteCells_length, hl]
theorem commitV_get (h r : Int) (l : List UInt8) (v : Value) (hl : l.length = 32) : (commitV h r l v)[34]? = some v := by
  simp [commitV, List.getElem?_append, Lib.byteCells_length, hl]
theorem commitV_one (h r : Int) (l : List UInt8) (v : Value) (hv : v.oneCell' = true) : ∀ x ∈ commitV h r l v, x.oneCell' = true := by
  intro x hx
  simp only [commitV, List.mem_append, List.mem_cons, List.not_mem_nil, or_false] at hx
  rcases hx with ((rfl | rfl) | hx) | rfl
  · rfl
  · rfl
  · exact oneCell_bytes l x hx
  · exact hv
theorem bCommit (h r : Int) (l : List UInt8) (hl : l.length = 32) : Tryd.prog.built 68 [(0, .int .i64 h), (1, .int .i64 r), (2, .agg (Lib.byteCells l).toArray)] = some (commitV h r l (.slice none 0 0)).toArray := by
  have hb := built_pre (P := Tryd.prog) 68 _ [(0, 1), (1, 1), (2, 32), (34, 1)] [.int .i64 h, .int .i64 r, .agg (Lib.byteCells l).toArray] ZCommit ([.int .i64 0, .int .i64 0] ++ Lib.byteCells (List.replicate 32 0)) [.slice none 0 0] Tryd.underlying68 (by kernel_rfl) ZCommit_info rfl
    (by simp [flatCells, Value.cells, Lib.byteCells_length, hl]) ⟨rfl, rfl, by simp [Value.cells, Lib.byteCells_length, hl], trivial⟩
  have e : flatCells [.int .i64 h, .int .i64 r, .agg (Lib.byteCells l).toArray] ++ [.slice none 0 0] = commitV h r l (.slice none 0 0) := by simp [flatCells, Value.cells, commitV]
  rw [e] at hb
  exact hb
theorem seal_info : (Tryd.prog.info? 153).map (fun i => (i.zero, i.size, i.bytes)) = some (some (.agg #[.int .u64 0, .int .u64 0, .int .u64 0]), 3, 24) := by kernel_rfl
theorem RSig' (p : Nat) (st : RS) (w : World) (h : IsR w p st) :
    Calls Tryd.prog 67 #[.pointer (some ⟨p, 0, none⟩)] w (Reads (.agg #[.int .u64 ((rdSig st).1.1 : Nat), .int .u64 ((rdSig st).1.2 : Nat)]) (rdSig st).2 p w) := RSig p st w h

def rdSeals : Nat → RS → List SealD × RS
  | 0, s => ([], s)
  | k + 1, s => ((rdSeals k s).1 ++ [⟨((rdWord (rdSeals k s).2).1 : Nat), ((rdSig (rdWord (rdSeals k s).2).2).1.1 : Nat), ((rdSig (rdWord (rdSeals k s).2).2).1.2 : Nat)⟩], (rdSig (rdWord (rdSeals k s).2).2).2)
theorem rdSeals_len (k : Nat) (s : RS) : (rdSeals k s).1.length = k := by
  induction k with
  | zero => rfl
  | succ k ih => simp [rdSeals, ih]
theorem rdSeals_wf (k : Nat) (s : RS) : ∀ v ∈ (rdSeals k s).1, v.wf := by
  induction k with
  | zero => simp [rdSeals]
  | succ k ih =>
    intro v hv
    simp only [rdSeals, List.mem_append, List.mem_cons, List.not_mem_nil, or_false] at hv
    rcases hv with hv | rfl
    · exact ih v hv
    · exact ⟨rdWord_R _, (rdSig_R _).1, (rdSig_R _).2⟩
theorem sealCells_snoc (k : Nat) (s : RS) : sealCells (rdSeals (k + 1) s).1 = sealCells (rdSeals k s).1 ++ [.int .u64 ((rdWord (rdSeals k s).2).1 : Nat), .int .u64 ((rdSig (rdWord (rdSeals k s).2).2).1.1 : Nat), .int .u64 ((rdSig (rdWord (rdSeals k s).2).2).1.2 : Nat)] := by
  simp [rdSeals, sealCells, SealD.cells]
def cT1 (s : RS) : RS := (rdNum s).2
def cT2 (s : RS) : RS := (rdNum (cT1 s)).2
def cT3 (s : RS) : RS := (rdHash (cT2 s)).2
def rdCommit (s : RS) : CommitD × RS := ({ height := (rdNum s).1, round := (rdNum (cT1 s)).1, block := (rdHash (cT2 s)).1, seals := (rdSeals (rdCount 64 (cT3 s)).1.toNat (rdCount 64 (cT3 s)).2).1 }, (rdSeals (rdCount 64 (cT3 s)).1.toNat (rdCount 64 (cT3 s)).2).2)
theorem rdCommit_wf (s : RS) : (rdCommit s).1.wf := ⟨rdNum_R _, rdNum_R _, rdHash_len _, rdSeals_wf _ _⟩
theorem rdCommit_n (s : RS) : (rdCommit s).1.seals.length ≤ 64 := by
  have := rdCount_R 64 (cT3 s) (by omega)
  show (rdSeals _ _).1.length ≤ 64
  rw [rdSeals_len]; omega

theorem undrew_grown {w w' : World} {row : Option Nat} (h : w.drew.grownBy w' row) : w.grownBy w' row := ⟨h.os, h.tape, h.output, h.size, h.block⟩
theorem own_shape {w : World} {B k n : Nat} {e : TypeId} {v : Value} {cs : List Value} (h : w.ownsRow B e k v n cs) : ∃ a n c, v = .slice a n c := by
  rcases h.2 with ⟨rfl, _⟩ | ⟨g, cap, cur, rfl, _⟩
  · exact ⟨_, _, _, rfl⟩
  · exact ⟨_, _, _, rfl⟩
/-- a commit whose seals lie in blocks of the call's own -/
def CommitD.own (B : Nat) (w : World) (c : CommitD) (cs : List Value) : Prop := ∃ sl, w.ownsRow B 153 3 sl c.seals.length (sealCells c.seals) ∧ cs = [.int .i64 c.height, .int .i64 c.round] ++ Lib.byteCells c.block ++ [sl]
theorem CommitD.own.rep {B : Nat} {w : World} {c : CommitD} {cs : List Value} (h : c.own B w cs) : c.rep w.heap.size w cs := by obtain ⟨sl, h1, h2⟩ := h; exact ⟨sl, rds_of_own h1, h2⟩
theorem CommitD.own.one {B : Nat} {w : World} {c : CommitD} {cs : List Value} (h : c.own B w cs) : ∀ v ∈ cs, v.oneCell' = true := by
  obtain ⟨sl, h1, rfl⟩ := h
  obtain ⟨a, n, k, rfl⟩ := own_shape h1
  exact commitV_one _ _ _ _ rfl
theorem CommitD.own.stays {B : Nat} {w w' : World} {c : CommitD} {cs : List Value} (h : c.own B w cs) (hs : ∀ b, B ≤ b → b < w.heap.size → w'.heap[b]? = w.heap[b]?) : c.own B w' cs := by
  obtain ⟨sl, h1, h2⟩ := h; exact ⟨sl, own_stays h1 hs, h2⟩
theorem CommitD.own.mono {B B' : Nat} {w : World} {c : CommitD} {cs : List Value} (h : c.own B w cs) (hB : B' ≤ B) : c.own B' w cs := by
  obtain ⟨sl, h1, h2⟩ := h; exact ⟨sl, own_mono h1 hB, h2⟩
theorem enters_rWord : ∀ args w, (callFunc 66 args).run Tryd.prog w = .ok (.enter 66 args) w := enters Tryd.func66 (by kernel_rfl) rfl
theorem enters_sig : ∀ args w, (callFunc 67 args).run Tryd.prog w = .ok (.enter 67 args) w := enters Tryd.func67 (by kernel_rfl) rfl
theorem keep_alloc {w : World} {a : Addr} {v : Value} (h1 : w.cell? a = some v) (h2 : w.frozen? a = false) (o : Obj) : (w.alloc o).cell? a = some v ∧ (w.alloc o).frozen? a = false := by
  have hg := World.grownBy_alloc w o none
  exact ⟨hg.cell h1 (by simp), (frozen_grown hg (World.block_lt_of_cell? w a h1) (by simp)).trans h2⟩

set_option maxHeartbeats 1000000 in
theorem takeCommit_yes (p : Nat) (st : RS) (w : World) (h : IsR w p st) (hk : (rdNum st).1 = 4) :
    Calls Tryd.prog 92 #[.pointer (some ⟨p, 0, none⟩)] w fun e w' => ∃ cs, e = .returned (.agg cs.toArray) ∧ (rdCommit (rdNum st).2).1.own w.heap.size w' cs ∧ IsR w' p (rdCommit (rdNum st).2).2 ∧ w.grownBy w' (some p) := by
  have H := Lib.hid h; have Hk := Lib.hid hk
  have hlt := h.lt
  clear h hk
  go_enter Tryd.func92, Tryd.ntmps92
  go_wp2_with (refine wpList_alloc_as rfl 68 rfl ZCommit ZCommit_info ?_)
  intro W1 b1 g1 s1
  have B1 := Lib.hid b1; have G1 := Lib.hid g1
  have R := Lib.hid (H.out.grown g1)
  have hrb : w.heap.size < W1.heap.size := b1.lt
  clear b1 g1 s1
  go_wp2_with fail
  refine (kind_yes p 4 _ _ R.out Hk.out).mono ?_
  rintro e w2 ⟨rfl, h1, h2⟩
  obtain ⟨s1, hs1⟩ : ∃ s1, (rdNum st).2 = s1 := ⟨_, rfl⟩
  rw [hs1] at h1
  replace R := Lib.hid h1; have G := Lib.hid h2; have Hs1 := Lib.hid hs1; clear h1 h2 hs1
  go_wp2_with fail
  refine (RNumber p _ _ R.out).mono ?_
  rintro e w3 ⟨rfl, h1, h2⟩
  replace R := Lib.hid (show IsR w3 p (cT1 s1) from h1); replace G := Lib.hid (Lib.grownBy_trans G.out h2); clear h1 h2
  go_wp2_with fail
  refine (RNumber p _ _ R.out).mono ?_
  rintro e w4 ⟨rfl, h1, h2⟩
  replace R := Lib.hid (show IsR w4 p (cT2 s1) from h1); replace G := Lib.hid (Lib.grownBy_trans G.out h2); clear h1 h2
  go_wp2_with fail
  refine (RHash p _ _ R.out).mono ?_
  rintro e wm ⟨rfl, h1, h2⟩
  replace R := Lib.hid (show IsR wm p (cT3 s1) from h1); replace G := Lib.hid (Lib.grownBy_trans G.out h2); clear h1 h2
  have hm : p < wm.heap.size := R.out.lt
  have hm0 : W1.heap.size ≤ wm.heap.size := G.out.size
  obtain ⟨hh, ehh⟩ : ∃ x, (rdNum s1).1 = x := ⟨_, rfl⟩
  obtain ⟨rr, err⟩ : ∃ x, (rdNum (cT1 s1)).1 = x := ⟨_, rfl⟩
  obtain ⟨bb, ebb⟩ : ∃ x, (rdHash (cT2 s1)).1 = x := ⟨_, rfl⟩
  have Hbb := Lib.hid (show bb.length = 32 from ebb ▸ rdHash_len _)
  rw [ehh, err, ebb]
  have E1 := Lib.hid ehh; have E2 := Lib.hid err; have E3 := Lib.hid ebb; clear ehh err ebb
  go_wp2_with (first | (refine wpList_build_eq rfl 68 _ rfl [(0, .int .i64 hh), (1, .int .i64 rr), (2, .agg (Lib.byteCells bb).toArray)] (by kernel_rfl) _ (bCommit hh rr bb Hbb.out) ?_) | (refine wpList_alloc_as rfl 68 rfl ZCommit ZCommit_info ?_))
  intro w5 b3 g3 s3
  replace R := Lib.hid (R.out.grown g3); replace G := Lib.hid (Lib.grownBy_trans G.out (grown_none g3)); have L := Lib.hid b3; clear b3 g3 s3
  go_wp2_with (refine wpList_store_whole rfl 68 _ _ rfl wm.heap.size rfl (commitV hh rr bb (.slice none 0 0)) ZCommit 68 rfl L.out (by rw [commitV_len _ _ _ _ Hbb.out]; rfl) (commitV_one _ _ _ _ rfl) (by rw [commitV_len _ _ _ _ Hbb.out]; exact sizeCommit) ?_)
  intro w6 g4 s4 b4
  replace R := Lib.hid (R.out.grownAt g4 hm); replace G := Lib.hid (grown_new G.out g4 hm0); replace L := Lib.hid b4; clear b4 g4 s4
  go_wp2_with fail
  refine (RCount p 64 _ _ R.out).mono ?_
  rintro e w7 ⟨rfl, h1, h2⟩
  have hc := rdCount_R 64 (cT3 s1) (by omega)
  obtain ⟨N, hN⟩ := Int.eq_ofNat_of_zero_le hc.1
  have hd : (rdCommit s1) = ({ height := (rdNum s1).1, round := (rdNum (cT1 s1)).1, block := (rdHash (cT2 s1)).1, seals := (rdSeals N (rdCount 64 (cT3 s1)).2).1 }, (rdSeals N (rdCount 64 (cT3 s1)).2).2) := by unfold rdCommit; rw [hN]; rfl
  rw [hN] at hc ⊢
  obtain ⟨s2, hs2⟩ : ∃ s2, (rdCount 64 (cT3 s1)).2 = s2 := ⟨_, rfl⟩
  rw [hs2] at h1 hd
  rw [E1.out, E2.out, E3.out] at hd
  replace R := Lib.hid h1; replace G := Lib.hid (Lib.grownBy_trans G.out h2); replace L := Lib.hid (L.out.grown h2 (by simp; omega)); have Hd := Lib.hid hd
  have hN64 : N ≤ 64 := by omega
  clear h1 h2 hs2 hN hd hc
  go_wp2_with fail
  go_loopw [15] (fun i wr => ∃ k : Nat, k ≤ N ∧ i = .int .i64 k ∧ (∃ v, wr.ownsRow (wm.heap.size + 1) 153 3 v k (sealCells (rdSeals k s2).1) ∧ Blk wr wm.heap.size (commitV hh rr bb v) 68) ∧ IsR wr p (rdSeals k s2).2 ∧ W1.grownBy wr (some p)) (fun i _ => N - (intOf i).toNat)
  case atStart => exact ⟨0, Nat.zero_le _, rfl, ⟨_, World.ownsRow_nil _ _ _ _, L.out⟩, R.out, G.out⟩
  case round =>
    obtain ⟨k, hk, rfl, ⟨v, ho, hl⟩, hr, hg⟩ := hrel
    obtain ⟨va, vn, vc, hv⟩ : ∃ a n c, v = .slice a n c := by
      rcases ho.2 with ⟨rfl, _⟩ | ⟨g, cap, cur, rfl, _⟩
      · exact ⟨_, _, _, rfl⟩
      · exact ⟨_, _, _, rfl⟩
    subst hv
    have Ho := Lib.hid ho; have Hl := Lib.hid hl; have Hr := Lib.hid hr; have Hg := Lib.hid hg; clear ho hl hr hg
    by_cases hlt2 : k < N
    · have c34 := Hl.out.row 34 _ (commitV_get _ _ _ _ Hbb.out); rw [Nat.zero_add] at c34
      have f34 := Hl.out.frozen 34
      have hbase : wm.heap.size + 1 ≤ wr.heap.size := Hl.out.lt
      go_upto_region 5 with (fail)
      go_region_law ((first | (refine step_wanted (by rfl) (wp_call 66 _ _ (by rfl) enters_rWord (by rfl) (RWord p _ wr.drew (show IsR wr.drew p _ from Hr.out)) ?_); rintro e w8 ⟨rfl, r8, g8⟩; refine ⟨_, rfl, ?_⟩; have c8 := g8.cell (a := ⟨wm.heap.size, 34, none⟩) c34 (by simp; omega); have f8 := (frozen_grown g8 (a := ⟨wm.heap.size, 34, none⟩) (by show wm.heap.size < wr.heap.size; omega) (by simp; omega)).trans f34; have o8 := World.ownsRow.kept (show wr.drew.ownsRow _ _ _ _ _ _ from Ho.out) g8 (own_ne Ho.out (by omega)); have z8 : wm.heap.size + 1 ≤ w8.heap.size := Nat.le_trans hbase g8.size) | (refine step_wanted (by rfl) (wp_call 67 _ _ (by rfl) enters_sig (by rfl) (RSig' p _ _ r8) ?_); rintro e w9 ⟨rfl, r9, g9⟩; refine ⟨_, rfl, ?_⟩; have c9 := g9.cell c8 (by simp; omega); have f9 := (frozen_grown g9 (a := ⟨wm.heap.size, 34, none⟩) (by show wm.heap.size < w8.heap.size; omega) (by simp; omega)).trans f8; have o9 := World.ownsRow.kept o8 g9 (own_ne o8 (by omega)); have z9 : wm.heap.size + 1 ≤ w9.heap.size := Nat.le_trans z8 g9.size; have ca9 := fun o => (keep_alloc c9 f9 o).1) | (refine step_wanted (by rfl) (wp_app_new w9 _ _ 66 (by rfl) (wm.heap.size + 1) 153 _ 3 24 Tryd.underlying66 seal_info (by rfl) _ k _ (by rfl) o9 (by rfl) [_, _, _] (by rfl) (by simp [Value.oneCell']) (by omega) (by omega) z9 ?_); intro v' w10 o10 b10 _; obtain ⟨a10, n10, k10, rfl⟩ := own_shape o10; have c10 := (b10.cell (p := ⟨wm.heap.size, 34, none⟩) (Nat.lt_succ_self _)).trans c9; have f10 := (b10.frozen (p := ⟨wm.heap.size, 34, none⟩) (Nat.lt_succ_self _)).trans f9)))
      all_goals
        go_wp2
        have L9 := (Hl.out.grown (Lib.grownBy_trans (undrew_grown g8) g9) (by simp; omega))
        have L10 := (b10.block wm.heap.size (Nat.lt_succ_self _)).trans L9
        refine ⟨⟨k + 1, by omega, by go_num, ⟨.slice a10 n10 k10, ?_, ?_⟩, ?_, ?_⟩, by simp [intOf]; omega⟩
        · rw [sealCells_snoc]; exact ownsRow_setCell_below o10 (by simp) _
        · have := heap_setCell_same L10 34 (.slice a10 n10 k10)
          have e2 := commitV_set hh rr bb (.slice va vn vc) (.slice a10 n10 k10) Hbb.out
          unfold Blk
          rw [← e2]
          simpa using this
        · exact (IsR.other (r9.below b10 (by omega)) hm _)
        · have q := Lib.grownBy_trans Hg.out (Lib.grownBy_trans (undrew_grown g8) g9)
          exact grown_below q (((b10.mono (by omega)).setCell (by simp; omega) _))
    · obtain rfl : k = N := by omega
      have RB := Lib.hid (B1.out.grown Hg.out (by simp; omega))
      have Hc := Lib.hid (commitV_len hh rr bb (.slice va vn vc) Hbb.out)
      go_wp2_with (first | (refine wpList_load_part rfl 68 _ rfl wm.heap.size 0 rfl (commitV hh rr bb (.slice va vn vc)) _ Hl.out.row Tryd.underlying68 rfl (by rw [Hc.out]; exact sizeCommit) ?_) | (refine wpList_store_whole rfl 68 _ _ rfl w.heap.size rfl (commitV hh rr bb (.slice va vn vc)) ZCommit 68 rfl RB.out (by rw [Hc.out]; rfl) (commitV_one _ _ _ _ rfl) (by rw [Hc.out]; exact sizeCommit) ?_))
      intro w20 g20 s20 b20
      have B20 := Lib.hid b20; have G20 := Lib.hid g20; clear b20 g20 s20
      go_wp2_with fail
      refine bodyPost_ret (results_cell_one rfl _ _ ⟨w.heap.size, 0, none⟩ _ rfl (run_loadVar_part _ _ _ 68 (commitV hh rr bb (.slice va vn vc)) _ B20.out.row Tryd.underlying68 rfl (by rw [Hc.out]; exact sizeCommit))) rfl ?_
      rw [Hs1.out, Hd.out]
      refine ⟨_, rfl, ⟨.slice va vn vc, ?_, rfl⟩, Hr.out.grownAt G20.out hlt, grown_new (Lib.grownBy_trans (grown_none G1.out) Hg.out) G20.out (Nat.le_refl _)⟩
      show World.ownsRow _ _ _ _ _ (rdSeals k s2).1.length _
      rw [rdSeals_len]
      exact own_mono (World.ownsRow.kept Ho.out G20.out (own_ne Ho.out (by omega))) (by omega)

set_option maxHeartbeats 400000 in
theorem takeCommit_no (p : Nat) (st : RS) (w : World) (h : IsR w p st) (hk : (rdNum st).1 ≠ 4) :
    Calls Tryd.prog 92 #[.pointer (some ⟨p, 0, none⟩)] w fun e w' => e = .panicked wrongP ∧ w.grownBy w' (some p) := by
  have H := Lib.hid h; have Hk := Lib.hid hk
  clear h hk
  go_enter Tryd.func92, Tryd.ntmps92
  go_wp2_with (refine wpList_alloc_as rfl 68 rfl ZCommit ZCommit_info ?_)
  intro W1 b1 g1 s1
  have G1 := Lib.hid g1
  have R := Lib.hid (H.out.grown g1)
  clear b1 g1 s1
  go_wp2_with fail
  refine (kind_no p 4 _ _ R.out Hk.out).mono ?_
  rintro e w2 ⟨rfl, h2⟩
  exact ⟨rfl, rfl, Lib.grownBy_trans (grown_none G1.out) h2⟩

end Go.Proofs.YtaffpgafbjhahaaDoor
