import Derived.Test.YtdhchehagfmjcaaGreatDoorEncode
import Derived.Test.YtdhchehagfmjcaaGreatDoorApp
import Derived.Test.YtdhchehagfmjcaaGreatDoorBuild
import Derived.Deep.RegionLaw
import Derived.Deep.CutRange
namespace Go.Proofs.YtdhchehagfmjcaaGreatDoor
open Go.RowKit
set_option maxRecDepth 100000
section
variable {P : Program}
theorem built_pre (t : TypeId) (fields : Array Field) (places : List (Nat × Nat)) (vs : List Value) (z mid post : List Value) (hu : P.underlying t = some (.struct fields))
  (hp : fields.toList.mapM (fun f => (P.info? f.type).map fun i => (f.offset, i.size)) = some places)
  (hz : (P.info? t).map (fun i => i.zero.map (fun v => v.cells)) = some (some z.toArray)) (he : z = mid ++ post) (hm : mid.length = (flatCells vs).length)
  (hl : Laid (places.toArray[·]?) 0 0 vs) : P.built t ((vs.zipIdx 0).map fun x => (x.2, x.1)) = some (flatCells vs ++ post).toArray := by
 subst he
 unfold Program.built
 cases hi : P.info? t with
 | none => simp [hi] at hz
 | some it =>
  cases hzz : it.zero with
  | none => simp [hi, hzz] at hz
  | some v =>
   have hs : v.cells = (mid ++ post).toArray := by simpa [hi, hzz] using hz
   simp only [hu, hp, hzz, hs]
   have := fill_laid (places.toArray[·]?) vs 0 [] mid post hl hm
   simpa using this
end
def ZCommit : List Value := [.int .i64 0, .int .i64 0] ++ Lib.byteCells (List.replicate 32 0) ++ [.slice none 0 0]
theorem ZCommit_info : (Tryz.prog.info? 28).map (fun i => i.zero.map (fun v => v.cells)) = some (some ZCommit.toArray) := by kernel_rfl
def commitV (h r : Int) (l : List UInt8) (v : Value) : List Value := [.int .i64 h, .int .i64 r] ++ Lib.byteCells l ++ [v]
theorem commitV_len (h r : Int) (l : List UInt8) (v : Value) (hl : l.length = 32) : (commitV h r l v).length = 35 := by simp [commitV, Lib.byteCells_length, hl]
theorem commitV_get (h r : Int) (l : List UInt8) (v : Value) (hl : l.length = 32) : (commitV h r l v)[34]? = some v := by
 simp [commitV, Lib.byteCells_length, hl]
theorem commitV_one (h r : Int) (l : List UInt8) (v : Value) (hv : v.oneCell' = true) : ∀ x ∈ commitV h r l v, x.oneCell' = true := by
 intro x hx
 simp only [commitV, List.mem_append, List.mem_cons, List.not_mem_nil, or_false] at hx
 rcases hx with ((rfl | rfl) | hx) | rfl
 ·rfl
 ·rfl
 ·exact oneCell_bytes l x hx
 ·exact hv
theorem undrew_grown {w w' : World} {row : Option Nat} (h : w.drew.grownBy w' row) : w.grownBy w' row := ⟨h.os, h.tape, h.output, h.size, h.block⟩
end Go.Proofs.YtdhchehagfmjcaaGreatDoor
