/- Walks: forms.takeSet. Walks: forms.takeSet's throw, takeCommit. -/
import Derived.Test.YtdhchehagfmjcaaGreatDoorEncode
import Derived.Test.YtdhchehagfmjcaaGreatDoorApp
import Derived.Test.YtdhchehagfmjcaaGreatDoorBuild
import Derived.Deep.RegionLaw
import Derived.Deep.CutRange
namespace Go.Proofs.YtdhchehagfmjcaaGreatDoor
open Go.RowKit
set_option maxRecDepth 100000

theorem IsR.below {w w' : World} {p B : Nat} {st : RS} (h : IsR w p st) (hb : Below B w w') (hp : p < B) : IsR w' p st := by
  have hc : ∀ j, w'.cell? ⟨p, j, none⟩ = w.cell? ⟨p, j, none⟩ := fun j => hb.cell (p := ⟨p, j, none⟩) hp
  have hf : ∀ j, w'.frozen? ⟨p, j, none⟩ = w.frozen? ⟨p, j, none⟩ := fun j => hb.frozen (p := ⟨p, j, none⟩) hp
  obtain ⟨h1, h2, h⟩ := h
  refine ⟨(hf 0).trans h1, (hf 1).trans h2, ?_⟩
  cases st with
  | none => obtain ⟨⟨ao, n, c, h3⟩, h4⟩ := h; exact ⟨⟨ao, n, c, (hc 0).trans h3⟩, (hc 1).trans h4⟩
  | some l =>
    obtain ⟨h3, ao, c, h4, h5, h6, h7⟩ := h
    refine ⟨(hc 1).trans h3, ao, c, (hc 0).trans h4, h5, h6, ?_⟩
    rcases h7 with h7 | ⟨g, o, e, hp2, hr⟩
    · exact Or.inl h7
    · exact Or.inr ⟨g, o, e, hp2, hr.below hb (by omega)⟩
/-- an own row, read -/
theorem rds_of_own {w : World} {B k n : Nat} {e : TypeId} {v : Value} {cs : List Value} (h : w.ownsRow B e k v n cs) : RdS w.heap.size w v n k cs := by
  obtain ⟨h1, ⟨rfl, h0⟩ | ⟨g, cap, cur, rfl, hg, hblk, hle, hcm, hcs, htk⟩⟩ := h
  · exact ⟨none, 0, by rw [h0], by omega, by unfold maxLen; omega, h1, Or.inl h0⟩
  · refine ⟨_, cap, rfl, hle, hcm, h1, Or.inr ⟨g, 0, rfl, Lib.lt_of_heap hblk, ?_⟩⟩
    intro j v hj
    rw [Nat.zero_add, Lib.cell_of_heap hblk, ← Array.getElem?_toList]
    have hlt : j < n * k := by have := (List.getElem?_eq_some_iff.1 hj).1; omega
    rw [← htk, List.getElem?_take_of_lt hlt] at hj
    exact hj

theorem own_mono {w : World} {B B' k n : Nat} {e : TypeId} {v : Value} {cs : List Value} (h : w.ownsRow B e k v n cs) (hB : B' ≤ B) : w.ownsRow B' e k v n cs := by
  obtain ⟨h1, h2⟩ := h
  refine ⟨h1, ?_⟩
  rcases h2 with h2 | ⟨g, cap, cur, hv, hg, r⟩
  · exact Or.inl h2
  · exact Or.inr ⟨g, cap, cur, hv, by omega, r⟩
section
variable {P : Program}
/-- a struct that is built of its first parts; what is behind them is zero -/
theorem built_pre (t : TypeId) (fields : Array Field) (places : List (Nat × Nat)) (vs : List Value) (z mid post : List Value) (hu : P.underlying t = some (.struct fields))
    (hp : fields.toList.mapM (fun f => (P.info? f.type).map fun i => (f.offset, i.size)) = some places)
    (hz : (P.info? t).map (fun i => i.zero.map (fun v => v.cells)) = some (some z.toArray)) (he : z = mid ++ post) (hm : mid.length = (flatCells vs).length)
    (hl : Laid (places.toArray[·]?) 0 0 vs) : P.built t ((vs.zipIdx 0).map fun x => (x.2, x.1)) = some (flatCells vs ++ post).toArray := by
  subst he
  unfold Program.built
  cases hi : P.info? t with
  | none => simp [hi] at hz
  | some it =>
    cases hzz : it.zero with
    | none => simp [hi, hzz] at hz
    | some v =>
      have hs : v.cells = (mid ++ post).toArray := by simpa [hi, hzz] using hz
      simp only [hu, hp, hzz, hs]
      have := fill_laid (places.toArray[·]?) vs 0 [] mid post hl hm
      simpa using this
end
def ZCommit : List Value := [.int .i64 0, .int .i64 0] ++ Lib.byteCells (List.replicate 32 0) ++ [.slice none 0 0]
theorem ZCommit_info : (Tryz.prog.info? 28).map (fun i => i.zero.map (fun v => v.cells)) = some (some ZCommit.toArray) := by kernel_rfl
def commitV (h r : Int) (l : List UInt8) (v : Value) : List Value := [.int .i64 h, .int .i64 r] ++ Lib.byteCells l ++ [v]
theorem commitV_len (h r : Int) (l : List UInt8) (v : Value) (hl : l.length = 32) : (commitV h r l v).length = 35 := by simp [commitV, Lib.byteCells_length, hl]
theorem commitV_get (h r : Int) (l : List UInt8) (v : Value) (hl : l.length = 32) : (commitV h r l v)[34]? = some v := by
  simp [commitV, Lib.byteCells_length, hl]
theorem commitV_one (h r : Int) (l : List UInt8) (v : Value) (hv : v.oneCell' = true) : ∀ x ∈ commitV h r l v, x.oneCell' = true := by
  intro x hx
  simp only [commitV, List.mem_append, List.mem_cons, List.not_mem_nil, or_false] at hx
  rcases hx with ((rfl | rfl) | hx) | rfl
  · rfl
  · rfl
  · exact oneCell_bytes l x hx
  · exact hv
theorem undrew_grown {w w' : World} {row : Option Nat} (h : w.drew.grownBy w' row) : w.grownBy w' row := ⟨h.os, h.tape, h.output, h.size, h.block⟩
theorem own_shape {w : World} {B k n : Nat} {e : TypeId} {v : Value} {cs : List Value} (h : w.ownsRow B e k v n cs) : ∃ a n c, v = .slice a n c := by
  rcases h.2 with ⟨rfl, _⟩ | ⟨g, cap, cur, rfl, _⟩
  · exact ⟨_, _, _, rfl⟩
  · exact ⟨_, _, _, rfl⟩
/-- a commit whose seals lie in blocks of the call's own -/
def CommitD.own (B : Nat) (w : World) (c : CommitD) (cs : List Value) : Prop := ∃ sl, w.ownsRow B 51 3 sl c.seals.length (sealCells c.seals) ∧ cs = [.int .i64 c.height, .int .i64 c.round] ++ Lib.byteCells c.block ++ [sl]
theorem CommitD.own.rep {B : Nat} {w : World} {c : CommitD} {cs : List Value} (h : c.own B w cs) : c.rep w.heap.size w cs := by obtain ⟨sl, h1, h2⟩ := h; exact ⟨sl, rds_of_own h1, h2⟩
theorem CommitD.own.one {B : Nat} {w : World} {c : CommitD} {cs : List Value} (h : c.own B w cs) : ∀ v ∈ cs, v.oneCell' = true := by
  obtain ⟨sl, h1, rfl⟩ := h
  obtain ⟨a, n, k, rfl⟩ := own_shape h1
  exact commitV_one _ _ _ _ rfl
theorem CommitD.own.mono {B B' : Nat} {w : World} {c : CommitD} {cs : List Value} (h : c.own B w cs) (hB : B' ≤ B) : c.own B' w cs := by
  obtain ⟨sl, h1, h2⟩ := h; exact ⟨sl, own_mono h1 hB, h2⟩
end Go.Proofs.YtdhchehagfmjcaaGreatDoor
