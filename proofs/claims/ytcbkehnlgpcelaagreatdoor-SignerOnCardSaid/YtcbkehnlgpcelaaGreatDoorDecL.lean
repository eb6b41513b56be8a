/- Walks: forms.takeSet. Walks: forms.takeSet's throw, takeCommit. -/
import Derived.Test.YtcbkehnlgpcelaaGreatDoorEncode
import Derived.Test.YtcbkehnlgpcelaaGreatDoorApp
import Derived.Test.YtcbkehnlgpcelaaGreatDoorBuild
import Derived.Deep.RegionLaw
import Derived.Deep.CutRange
namespace Go.Proofs.YtcbkehnlgpcelaaGreatDoor
open Go.RowKit
set_option maxRecDepth 100000

theorem IsR.below {w w' : World} {p B : Nat} {st : RS} (h : IsR w p st) (hb : Below B w w') (hp : p < B) : IsR w' p st := by
  have hc : ∀ j, w'.cell? ⟨p, j, none⟩ = w.cell? ⟨p, j, none⟩ := fun j => hb.cell (p := ⟨p, j, none⟩) hp
  have hf : ∀ j, w'.frozen? ⟨p, j, none⟩ = w.frozen? ⟨p, j, none⟩ := fun j => hb.frozen (p := ⟨p, j, none⟩) hp
  obtain ⟨h1, h2, h⟩ := h
  refine ⟨(hf 0).trans h1, (hf 1).trans h2, ?_⟩
  cases st with
  | none => obtain ⟨⟨ao, n, c, h3⟩, h4⟩ := h; exact ⟨⟨ao, n, c, (hc 0).trans h3⟩, (hc 1).trans h4⟩
  | some l =>
    obtain ⟨h3, ao, c, h4, h5, h6, h7⟩ := h
    refine ⟨(hc 1).trans h3, ao, c, (hc 0).trans h4, h5, h6, ?_⟩
    rcases h7 with h7 | ⟨g, o, e, hp2, hr⟩
    · exact Or.inl h7
    · exact Or.inr ⟨g, o, e, hp2, hr.below hb (by omega)⟩
theorem grown_below {w w1 w2 : World} {row : Option Nat} (h : w.grownBy w1 row) (k : Below w.heap.size w1 w2) : w.grownBy w2 row :=
  ⟨k.os.trans h.os, k.tape.trans h.tape, k.output.trans h.output, Nat.le_trans h.size k.size, fun i hi hr => (k.block i hi).trans (h.block i hi hr)⟩
/-- an own row, read -/
theorem rds_of_own {w : World} {B k n : Nat} {e : TypeId} {v : Value} {cs : List Value} (h : w.ownsRow B e k v n cs) : RdS w.heap.size w v n k cs := by
  obtain ⟨h1, ⟨rfl, h0⟩ | ⟨g, cap, cur, rfl, hg, hblk, hle, hcm, hcs, htk⟩⟩ := h
  · exact ⟨none, 0, by rw [h0], by omega, by unfold maxLen; omega, h1, Or.inl h0⟩
  · refine ⟨_, cap, rfl, hle, hcm, h1, Or.inr ⟨g, 0, rfl, Lib.lt_of_heap hblk, ?_⟩⟩
    intro j v hj
    rw [Nat.zero_add, Lib.cell_of_heap hblk, ← Array.getElem?_toList]
    have hlt : j < n * k := by have := (List.getElem?_eq_some_iff.1 hj).1; omega
    rw [← htk, List.getElem?_take_of_lt hlt] at hj
    exact hj

def rdVals : Nat → RS → List ValD × RS
  | 0, s => ([], s)
  | k + 1, s => ((rdVals k s).1 ++ [⟨((rdWord (rdVals k s).2).1 : Nat), (rdNum (rdWord (rdVals k s).2).2).1⟩], (rdNum (rdWord (rdVals k s).2).2).2)
theorem rdVals_len (k : Nat) (s : RS) : (rdVals k s).1.length = k := by
  induction k with
  | zero => rfl
  | succ k ih => simp [rdVals, ih]
theorem rdVals_wf (k : Nat) (s : RS) : ∀ v ∈ (rdVals k s).1, v.wf := by
  induction k with
  | zero => simp [rdVals]
  | succ k ih =>
    intro v hv
    simp only [rdVals, List.mem_append, List.mem_cons, List.not_mem_nil, or_false] at hv
    rcases hv with hv | rfl
    · exact ih v hv
    · exact ⟨rdWord_R _, rdNum_R _⟩
/-- validators, behind their kind -/
def rdSet (s : RS) : List ValD × RS := rdVals (rdCount 64 s).1.toNat (rdCount 64 s).2
theorem rdCount_R (most : Int) (s : RS) (hm : 0 ≤ most) : 0 ≤ (rdCount most s).1 ∧ (rdCount most s).1 ≤ most := by
  unfold rdCount
  cases s with
  | none => exact ⟨Int.le_refl _, hm⟩
  | some l =>
    dsimp only
    split
    · rename_i h; exact ⟨h.2.1, h.2.2⟩
    · exact ⟨Int.le_refl _, hm⟩
theorem rdSet_len (s : RS) : (rdSet s).1.length ≤ 64 := by
  have := rdCount_R 64 s (by omega)
  rw [rdSet, rdVals_len]; omega
theorem own_mono {w : World} {B B' k n : Nat} {e : TypeId} {v : Value} {cs : List Value} (h : w.ownsRow B e k v n cs) (hB : B' ≤ B) : w.ownsRow B' e k v n cs := by
  obtain ⟨h1, h2⟩ := h
  refine ⟨h1, ?_⟩
  rcases h2 with h2 | ⟨g, cap, cur, hv, hg, r⟩
  · exact Or.inl h2
  · exact Or.inr ⟨g, cap, cur, hv, by omega, r⟩
theorem own_stays {w w' : World} {B k n : Nat} {e : TypeId} {v : Value} {cs : List Value} (h : w.ownsRow B e k v n cs) (hs : ∀ b, B ≤ b → b < w.heap.size → w'.heap[b]? = w.heap[b]?) : w'.ownsRow B e k v n cs := by
  obtain ⟨h1, h2⟩ := h
  refine ⟨h1, ?_⟩
  rcases h2 with h2 | ⟨g, cap, cur, hv, hg, hh, r⟩
  · exact Or.inl h2
  · exact Or.inr ⟨g, cap, cur, hv, hg, (hs g hg (Lib.lt_of_heap hh)).trans hh, r⟩
theorem own_ne {w : World} {B k n : Nat} {e : TypeId} {v : Value} {cs : List Value} (h : w.ownsRow B e k v n cs) {p : Nat} (hp : p < B) : v.ownBlock = none ∨ v.ownBlock ≠ some p := by
  right
  intro e2
  have := (h.lt p e2).1
  omega
theorem setCells_snoc (k : Nat) (s : RS) : setCells (rdVals (k + 1) s).1 = setCells (rdVals k s).1 ++ [.int .u64 ((rdWord (rdVals k s).2).1 : Nat), .int .i64 (rdNum (rdWord (rdVals k s).2).2).1] := by
  simp [rdVals, setCells, ValD.cells]

section
variable {P : Program}
/-- a struct that is built of its first parts; what is behind them is zero -/
theorem built_pre (t : TypeId) (fields : Array Field) (places : List (Nat × Nat)) (vs : List Value) (z mid post : List Value) (hu : P.underlying t = some (.struct fields))
    (hp : fields.toList.mapM (fun f => (P.info? f.type).map fun i => (f.offset, i.size)) = some places)
    (hz : (P.info? t).map (fun i => i.zero.map (fun v => v.cells)) = some (some z.toArray)) (he : z = mid ++ post) (hm : mid.length = (flatCells vs).length)
    (hl : Laid (places.toArray[·]?) 0 0 vs) : P.built t ((vs.zipIdx 0).map fun x => (x.2, x.1)) = some (flatCells vs ++ post).toArray := by
  subst he
  unfold Program.built
  cases hi : P.info? t with
  | none => simp [hi] at hz
  | some it =>
    cases hzz : it.zero with
    | none => simp [hi, hzz] at hz
    | some v =>
      have hs : v.cells = (mid ++ post).toArray := by simpa [hi, hzz] using hz
      simp only [hu, hp, hzz, hs]
      have := fill_laid (places.toArray[·]?) vs 0 [] mid post hl hm
      simpa using this
end
def ZCommit : List Value := [.int .i64 0, .int .i64 0] ++ Lib.byteCells (List.replicate 32 0) ++ [.slice none 0 0]
theorem ZCommit_one : ∀ v ∈ ZCommit, v.oneCell' = true := fun v hv => List.all_eq_true.1 (show ZCommit.all (·.oneCell') = true by kernel_rfl) v hv
def commitV (h r : Int) (l : List UInt8) (v : Value) : List Value := [.int .i64 h, .int .i64 r] ++ Lib.byteCells l ++ [v]
theorem commitV_len (h r : Int) (l : List UInt8) (v : Value) (hl : l.length = 32) : (commitV h r l v).length = 35 := by simp [commitV, Lib.byteCells_length, hl]
theorem commitV_set (h r : Int) (l : List UInt8) (v u : Value) (hl : l.length = 32) : (commitV h r l v).set 34 u = commitV h r l u := by
  simp [commitV, Lib.byteCells_length, hl]
theorem commitV_get (h r : Int) (l : List UInt8) (v : Value) (hl : l.length = 32) : (commitV h r l v)[34]? = some v := by
  simp [commitV, Lib.byteCells_length, hl]
theorem commitV_one (h r : Int) (l : List UInt8) (v : Value) (hv : v.oneCell' = true) : ∀ x ∈ commitV h r l v, x.oneCell' = true := by
  intro x hx
  simp only [commitV, List.mem_append, List.mem_cons, List.not_mem_nil, or_false] at hx
  rcases hx with ((rfl | rfl) | hx) | rfl
  · rfl
  · rfl
  · exact oneCell_bytes l x hx
  · exact hv
theorem RSig' (p : Nat) (st : RS) (w : World) (h : IsR w p st) :
    Calls Tryz.prog 100 #[.pointer (some ⟨p, 0, none⟩)] w (Reads (.agg #[.int .u64 ((rdSig st).1.1 : Nat), .int .u64 ((rdSig st).1.2 : Nat)]) (rdSig st).2 p w) := RSig p st w h

def rdSeals : Nat → RS → List SealD × RS
  | 0, s => ([], s)
  | k + 1, s => ((rdSeals k s).1 ++ [⟨((rdWord (rdSeals k s).2).1 : Nat), ((rdSig (rdWord (rdSeals k s).2).2).1.1 : Nat), ((rdSig (rdWord (rdSeals k s).2).2).1.2 : Nat)⟩], (rdSig (rdWord (rdSeals k s).2).2).2)
theorem rdSeals_len (k : Nat) (s : RS) : (rdSeals k s).1.length = k := by
  induction k with
  | zero => rfl
  | succ k ih => simp [rdSeals, ih]
theorem rdSeals_wf (k : Nat) (s : RS) : ∀ v ∈ (rdSeals k s).1, v.wf := by
  induction k with
  | zero => simp [rdSeals]
  | succ k ih =>
    intro v hv
    simp only [rdSeals, List.mem_append, List.mem_cons, List.not_mem_nil, or_false] at hv
    rcases hv with hv | rfl
    · exact ih v hv
    · exact ⟨rdWord_R _, (rdSig_R _).1, (rdSig_R _).2⟩
theorem sealCells_snoc (k : Nat) (s : RS) : sealCells (rdSeals (k + 1) s).1 = sealCells (rdSeals k s).1 ++ [.int .u64 ((rdWord (rdSeals k s).2).1 : Nat), .int .u64 ((rdSig (rdWord (rdSeals k s).2).2).1.1 : Nat), .int .u64 ((rdSig (rdWord (rdSeals k s).2).2).1.2 : Nat)] := by
  simp [rdSeals, sealCells, SealD.cells]
def cT1 (s : RS) : RS := (rdNum s).2
def cT2 (s : RS) : RS := (rdNum (cT1 s)).2
def cT3 (s : RS) : RS := (rdHash (cT2 s)).2
def rdCommit (s : RS) : CommitD × RS := ({ height := (rdNum s).1, round := (rdNum (cT1 s)).1, block := (rdHash (cT2 s)).1, seals := (rdSeals (rdCount 64 (cT3 s)).1.toNat (rdCount 64 (cT3 s)).2).1 }, (rdSeals (rdCount 64 (cT3 s)).1.toNat (rdCount 64 (cT3 s)).2).2)
theorem rdCommit_wf (s : RS) : (rdCommit s).1.wf := ⟨rdNum_R _, rdNum_R _, rdHash_len _, rdSeals_wf _ _⟩
theorem rdCommit_n (s : RS) : (rdCommit s).1.seals.length ≤ 64 := by
  have := rdCount_R 64 (cT3 s) (by omega)
  show (rdSeals _ _).1.length ≤ 64
  rw [rdSeals_len]; omega

theorem undrew_grown {w w' : World} {row : Option Nat} (h : w.drew.grownBy w' row) : w.grownBy w' row := ⟨h.os, h.tape, h.output, h.size, h.block⟩
theorem own_shape {w : World} {B k n : Nat} {e : TypeId} {v : Value} {cs : List Value} (h : w.ownsRow B e k v n cs) : ∃ a n c, v = .slice a n c := by
  rcases h.2 with ⟨rfl, _⟩ | ⟨g, cap, cur, rfl, _⟩
  · exact ⟨_, _, _, rfl⟩
  · exact ⟨_, _, _, rfl⟩
theorem enters_rWord : ∀ args w, (callFunc 99 args).run Tryz.prog w = .ok (.enter 99 args) w := enters Tryz.func99 (by kernel_rfl) rfl
theorem enters_sig : ∀ args w, (callFunc 100 args).run Tryz.prog w = .ok (.enter 100 args) w := enters Tryz.func100 (by kernel_rfl) rfl
theorem keep_alloc {w : World} {a : Addr} {v : Value} (h1 : w.cell? a = some v) (h2 : w.frozen? a = false) (o : Obj) : (w.alloc o).cell? a = some v ∧ (w.alloc o).frozen? a = false := by
  have hg := World.grownBy_alloc w o none
  exact ⟨hg.cell h1 (by simp), (frozen_grown hg (World.block_lt_of_cell? w a h1) (by simp)).trans h2⟩

end Go.Proofs.YtcbkehnlgpcelaaGreatDoor
