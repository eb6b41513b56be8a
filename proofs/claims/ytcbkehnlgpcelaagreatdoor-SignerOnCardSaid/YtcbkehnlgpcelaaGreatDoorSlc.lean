/- Slices of things of several cells, read. -/
import Derived.Test.YtcbkehnlgpcelaaGreatDoorDecPacket
import Derived.Test.YtcbkehnlgpcelaaGreatDoorReadH
import Derived.Test.YtcbkehnlgpcelaaGreatDoorDecHeader
namespace Go.Proofs.YtcbkehnlgpcelaaGreatDoor
open Go.RowKit
set_option maxRecDepth 100000

/-- a slice of n things of k cells each, that reads as cs; below block B -/
def RdS (B : Nat) (w : World) (v : Value) (n k : Nat) (cs : List Value) : Prop :=
  ∃ ao c, v = .slice ao n c ∧ n ≤ c ∧ c ≤ maxLen ∧ cs.length = n * k ∧ (n = 0 ∨ ∃ g o, ao = some ⟨g, o, none⟩ ∧ g < B ∧ RowAt w g o cs)
section
variable {B n k : Nat} {w w' : World} {v : Value} {cs : List Value}
theorem RdS.len (h : RdS B w v n k cs) : cs.length = n * k := by obtain ⟨_, _, _, _, _, h, _⟩ := h; exact h
theorem RdS.mono {B' : Nat} (h : RdS B w v n k cs) (hB : B ≤ B') : RdS B' w v n k cs := by
  obtain ⟨ao, c, h1, h2, h3, h4, h5 | ⟨g, o, e, hg, hr⟩⟩ := h
  · exact ⟨ao, c, h1, h2, h3, h4, Or.inl h5⟩
  · exact ⟨ao, c, h1, h2, h3, h4, Or.inr ⟨g, o, e, by omega, hr⟩⟩
theorem RdS.below {B' : Nat} (h : RdS B w v n k cs) (hb : Below B' w w') (hB : B ≤ B') : RdS B w' v n k cs := by
  obtain ⟨ao, c, h1, h2, h3, h4, h5 | ⟨g, o, e, hg, hr⟩⟩ := h
  · exact ⟨ao, c, h1, h2, h3, h4, Or.inl h5⟩
  · exact ⟨ao, c, h1, h2, h3, h4, Or.inr ⟨g, o, e, hg, hr.below hb (by omega)⟩⟩
theorem RdS.grown {row : Option Nat} (h : RdS B w v n k cs) (hg : w.grownBy w' row) (hr : ∀ p, row = some p → B ≤ p := by simp) : RdS B w' v n k cs := by
  obtain ⟨ao, c, h1, h2, h3, h4, h5 | ⟨g, o, e, hg1, hr1⟩⟩ := h
  · exact ⟨ao, c, h1, h2, h3, h4, Or.inl h5⟩
  · refine ⟨ao, c, h1, h2, h3, h4, Or.inr ⟨g, o, e, hg1, hr1.grown hg ?_⟩⟩
    intro e2
    have := hr g e2.symm
    omega
/-- where a slice that is not empty lies -/
theorem RdS.at_ (h : RdS B w v n k cs) (hn : 0 < n) : ∃ g o c, v = .slice (some ⟨g, o, none⟩) n c ∧ n ≤ c ∧ c ≤ maxLen ∧ g < B ∧ RowAt w g o cs := by
  obtain ⟨ao, c, h1, h2, h3, h4, h5 | ⟨g, o, e, hg, hr⟩⟩ := h
  · omega
  · subst e; exact ⟨g, o, c, h1, h2, h3, hg, hr⟩
theorem RdS.shape (h : RdS B w v n k cs) : ∃ ao c, v = .slice ao n c := by obtain ⟨ao, c, h1, _⟩ := h; exact ⟨ao, c, h1⟩
theorem RdS.le (h : RdS B w v n k cs) : n ≤ maxLen := by obtain ⟨ao, c, _, h2, h3, _⟩ := h; omega
end
theorem flat_part {D : Type} (f : D → List Value) (k : Nat) : ∀ (ds : List D), (∀ d ∈ ds, (f d).length = k) → ∀ (i : Nat) (hi : i < ds.length), ((ds.flatMap f).drop (i * k)).take k = f ds[i]
  | [], _, i, hi => by simp at hi
  | d :: ds, h, 0, _ => by
    have hd := h d (by simp)
    rw [List.flatMap_cons, Nat.zero_mul, List.drop_zero, ← hd, List.take_left']
    · rfl
    · rfl
  | d :: ds, h, i + 1, hi => by
    have hd := h d (by simp)
    rw [List.flatMap_cons, show (i + 1) * k = k + i * k by rw [Nat.add_mul, Nat.one_mul, Nat.add_comm], ← List.drop_drop, List.drop_left' hd]
    exact flat_part f k ds (fun d hd => h d (by simp [hd])) i (by simpa using hi)
theorem flat_length {D : Type} (f : D → List Value) (k : Nat) : ∀ (ds : List D), (∀ d ∈ ds, (f d).length = k) → (ds.flatMap f).length = ds.length * k
  | [], _ => by simp
  | d :: ds, h => by
    rw [List.flatMap_cons, List.length_append, h d (by simp), flat_length f k ds (fun d hd => h d (by simp [hd])), List.length_cons, Nat.add_mul]; omega
/-- the cells of the i-th thing -/
theorem RowAt.elem {D : Type} {f : D → List Value} {k : Nat} {ds : List D} {w : World} {g o : Nat} (h : RowAt w g o (ds.flatMap f)) (hk : ∀ d ∈ ds, (f d).length = k) (i : Nat) (hi : i < ds.length) : RowAt w g (o + i * k) (f ds[i]) := by
  have := h.part (i * k) k
  rwa [flat_part f k ds hk i hi] at this

/-- a validator -/
structure ValD where
  key : Int
  power : Int
def ValD.wf (v : ValD) : Prop := u64R v.key ∧ i64R v.power
def ValD.cells (v : ValD) : List Value := [.int .u64 v.key, .int .i64 v.power]
def encVal (v : ValD) : List UInt8 := be64 v.key ++ be64 v.power
def encVals (l : List ValD) : List UInt8 := l.flatMap encVal
def encSet (l : List ValD) : List UInt8 := be64 3 ++ be64 l.length ++ encVals l
def setCells (l : List ValD) : List Value := l.flatMap ValD.cells
theorem ValD.cells_length (v : ValD) : v.cells.length = 2 := rfl
theorem encVal_length (v : ValD) : (encVal v).length = 16 := by simp [encVal, be64_length]
theorem encVals_length (l : List ValD) : (encVals l).length = 16 * l.length := by
  induction l with
  | nil => rfl
  | cons v l ih => rw [encVals, List.flatMap_cons, List.length_append, encVal_length]; rw [encVals] at ih; rw [ih, List.length_cons]; omega
theorem encSet_length (l : List ValD) : (encSet l).length = 16 + 16 * l.length := by simp [encSet, be64_length, encVals_length]; omega
theorem encVals_snoc (l : List ValD) (v : ValD) : encVals (l ++ [v]) = encVals l ++ encVal v := by simp [encVals]
/-- a seal -/
structure SealD where
  key : Int
  r : Int
  s : Int
def SealD.wf (v : SealD) : Prop := u64R v.key ∧ u64R v.r ∧ u64R v.s
def SealD.cells (v : SealD) : List Value := [.int .u64 v.key, .int .u64 v.r, .int .u64 v.s]
def encSeal (v : SealD) : List UInt8 := be64 v.key ++ be64 v.r ++ be64 v.s
def encSeals (l : List SealD) : List UInt8 := l.flatMap encSeal
def sealCells (l : List SealD) : List Value := l.flatMap SealD.cells
theorem SealD.cells_length (v : SealD) : v.cells.length = 3 := rfl
theorem encSeal_length (v : SealD) : (encSeal v).length = 24 := by simp [encSeal, be64_length]
theorem encSeals_length (l : List SealD) : (encSeals l).length = 24 * l.length := by
  induction l with
  | nil => rfl
  | cons v l ih => rw [encSeals, List.flatMap_cons, List.length_append, encSeal_length]; rw [encSeals] at ih; rw [ih, List.length_cons]; omega
/-- a commit -/
structure CommitD where
  height : Int
  round : Int
  block : List UInt8
  seals : List SealD
structure CommitD.wf (c : CommitD) : Prop where
  height : i64R c.height
  round : i64R c.round
  block : c.block.length = 32
  seals : ∀ s ∈ c.seals, s.wf
def CommitD.rep (B : Nat) (w : World) (c : CommitD) (cs : List Value) : Prop := ∃ sl, RdS B w sl c.seals.length 3 (sealCells c.seals) ∧ cs = [.int .i64 c.height, .int .i64 c.round] ++ Lib.byteCells c.block ++ [sl]
def okCommit (c : CommitD) : Bool := inR c.height 1 1099511627776 && inR c.round 0 1048576
def encCommit (c : CommitD) : List UInt8 := be64 4 ++ be64 c.height ++ be64 c.round ++ c.block ++ be64 c.seals.length ++ encSeals c.seals
/-- a light block -/
structure LightD where
  header : HeaderD
  commit : CommitD
  set : List ValD
  next : List ValD
structure LightD.wf (l : LightD) : Prop where
  header : l.header.wf
  commit : l.commit.wf
  set : ∀ v ∈ l.set, v.wf
  next : ∀ v ∈ l.next, v.wf
def LightD.rep (B : Nat) (w : World) (l : LightD) (cs : List Value) : Prop :=
  ∃ cc sv nv, l.commit.rep B w cc ∧ RdS B w sv l.set.length 2 (setCells l.set) ∧ RdS B w nv l.next.length 2 (setCells l.next) ∧ cs = l.header.cells ++ cc ++ [sv, nv]
theorem CommitD.rep.length {B : Nat} {w : World} {c : CommitD} {cs : List Value} (h : c.rep B w cs) (hc : c.wf) : cs.length = 35 := by
  obtain ⟨sl, _, rfl⟩ := h; simp [Lib.byteCells_length, hc.block]
theorem CommitD.rep.below {B B' : Nat} {w w' : World} {c : CommitD} {cs : List Value} (h : c.rep B w cs) (hb : Below B' w w') (hB : B ≤ B') : c.rep B w' cs := by
  obtain ⟨sl, h1, h2⟩ := h; exact ⟨sl, h1.below hb hB, h2⟩
theorem CommitD.rep.mono {B B' : Nat} {w : World} {c : CommitD} {cs : List Value} (h : c.rep B w cs) (hB : B ≤ B') : c.rep B' w cs := by
  obtain ⟨sl, h1, h2⟩ := h; exact ⟨sl, h1.mono hB, h2⟩
theorem LightD.rep.below {B B' : Nat} {w w' : World} {c : LightD} {cs : List Value} (h : c.rep B w cs) (hb : Below B' w w') (hB : B ≤ B') : c.rep B w' cs := by
  obtain ⟨a, b, d, h1, h2, h3, h4⟩ := h; exact ⟨a, b, d, h1.below hb hB, h2.below hb hB, h3.below hb hB, h4⟩
theorem LightD.rep.mono {B B' : Nat} {w : World} {c : LightD} {cs : List Value} (h : c.rep B w cs) (hB : B ≤ B') : c.rep B' w cs := by
  obtain ⟨a, b, d, h1, h2, h3, h4⟩ := h; exact ⟨a, b, d, h1.mono hB, h2.mono hB, h3.mono hB, h4⟩
theorem LightD.rep.length {B : Nat} {w : World} {c : LightD} {cs : List Value} (h : c.rep B w cs) (hc : c.wf) : cs.length = 200 := by
  obtain ⟨a, b, d, h1, h2, h3, rfl⟩ := h; simp [h1.length hc.commit, c.header.cells_length hc.header]

end Go.Proofs.YtcbkehnlgpcelaaGreatDoor
