/- Walks: forms.decode at []api.Validator. Walks: forms.decode at api.Commit. Walks: forms.DecodeSet, DecodeCommit. -/
import Derived.Test.YtaffpgafbjhahaaDoorDecode
import Derived.Test.YtaffpgafbjhahaaDoorBuild
import Derived.Deep.Cut
import Derived.Deep.CutRange
import Derived.Test.YtaffpgafbjhahaaDoorDecL
import Derived.Test.YtaffpgafbjhahaaDoorDec2Light
namespace Go.Proofs.YtaffpgafbjhahaaDoor
open Go.RowKit
set_option maxRecDepth 100000

/-- what a decoding of a one-cell thing answers -/
def DecPostV (Good : Value → World → Prop) (b : Bool) (w : World) (e : Ending) (w' : World) : Prop :=
  Below w.heap.size w w' ∧ (if b then ∃ v, e = .returned (.tuple #[v, .int .i64 0]) ∧ Good v w' else e = .returned (.tuple #[.slice none 0 0, .int .i64 61]))
theorem DecPostV.t {Good : Value → World → Prop} {w w' : World} {e : Ending} (h : DecPostV Good true w e w') : Below w.heap.size w w' ∧ ∃ v, e = .returned (.tuple #[v, .int .i64 0]) ∧ Good v w' := ⟨h.1, h.2⟩
theorem DecPostV.f {Good : Value → World → Prop} {w w' : World} {e : Ending} (h : DecPostV Good false w e w') : Below w.heap.size w w' ∧ e = .returned (.tuple #[.slice none 0 0, .int .i64 61]) := ⟨h.1, h.2⟩
def TakesV (F : FuncId) (w : World) (l : List UInt8) (Good : Value → World → Prop) (rest : RS) : Prop :=
  ∀ p w1, IsR w1 p (some l) → w.heap.size + 2 ≤ p → Calls Tryd.prog F #[.pointer (some ⟨p, 0, none⟩)] w1 fun e w2 =>
    ∃ a n k, e = .returned (.slice a n k) ∧ Good (.slice a n k) w2 ∧ IsR w2 p rest ∧ w1.grownBy w2 (some p)
def StaysV (B : Nat) (Good : Value → World → Prop) : Prop :=
  ∀ v w1 w2, Good v w1 → (∀ k, B ≤ k → k < w1.heap.size → w2.heap[k]? = w1.heap[k]?) → w1.heap.size ≤ w2.heap.size → Good v w2
theorem StaysV.below {B : Nat} {Good : Value → World → Prop} (h : StaysV B Good) {v : Value} {w1 w2 : World} (hg : Good v w1) (hb : Below w1.heap.size w1 w2) : Good v w2 :=
  h v w1 w2 hg (fun k _ hk => hb.block k hk) hb.size
theorem StaysV.grown {B : Nat} {Good : Value → World → Prop} (h : StaysV B Good) {v : Value} {w1 w2 : World} (hg : Good v w1) {m : Nat} (hb : w1.grownBy w2 (some m)) (hm : m < B) : Good v w2 :=
  h v w1 w2 hg (fun k hk hk2 => hb.block k hk2 (by simp; omega)) hb.size

/-- the zero value's cells -/
theorem ZCommit_length : ZCommit.length = 35 := by rfl
theorem sizCommit (cs : List Value) (h : cs.length = 35) : (Tryd.prog.info? 68).map (·.size) = some cs.length := by rw [h]; kernel_rfl

def errOf {D : Type} (r : Option D) : Int := if r.isSome then 0 else 61
def DecodesS (r : Option (List ValD)) (w : World) (e : Ending) (w' : World) : Prop :=
  Below w.heap.size w w' ∧ ∃ a n k, e = .returned (.tuple #[.slice a n k, .int .i64 (errOf r)]) ∧ w'.ownsRow w.heap.size 149 2 (.slice a n k) (r.getD []).length (setCells (r.getD []))
def decSet (l : List UInt8) : Option (List ValD) :=
  if (rdNum (some l)).1 = 3 ∧ (rdSet (rdNum (some l)).2).2 = some [] then some (rdSet (rdNum (some l)).2).1 else none
theorem enters_takeSet : ∀ args w, (callFunc 93 args).run Tryd.prog w = .ok (.enter 93 args) w := enters Tryd.func93 (by kernel_rfl) rfl
def zCommit : CommitD := { height := 0, round := 0, block := List.replicate 32 0, seals := [] }
theorem zCommit_wf : zCommit.wf := ⟨by unfold i64R; decide, by unfold i64R; decide, rfl, by simp [zCommit]⟩
theorem zCommit_own (B : Nat) (w : World) : zCommit.own B w ZCommit := ⟨.slice none 0 0, World.ownsRow_nil _ _ _ _, rfl⟩
def zHeader : HeaderD := { chain := ⟨#[]⟩, height := 0, time := 0, last := List.replicate 32 0, set := List.replicate 32 0, next := List.replicate 32 0, data := List.replicate 32 0, app := List.replicate 32 0 }
theorem zHeader_wf : zHeader.wf := ⟨by unfold maxLen zHeader; exact Nat.zero_le _, by unfold i64R; decide, by unfold i64R; decide, rfl, rfl, rfl, rfl, rfl⟩
def zLight : LightD := { header := zHeader, commit := zCommit, set := [], next := [] }
theorem zLight_wf : zLight.wf := ⟨zHeader_wf, zCommit_wf, by simp [zLight], by simp [zLight]⟩
theorem zLight_own (B : Nat) (w : World) : zLight.own B w ZLight := ⟨ZCommit, _, _, zCommit_own B w, World.ownsRow_nil _ _ _ _, World.ownsRow_nil _ _ _ _, rfl⟩
def DecodesC (r : Option CommitD) (w : World) (e : Ending) (w' : World) : Prop :=
  Below w.heap.size w w' ∧ ∃ cs, e = .returned (.tuple #[.agg cs.toArray, .int .i64 (errOf r)]) ∧ (r.getD zCommit).own w.heap.size w' cs
def DecodesU (r : Option LightD) (w : World) (e : Ending) (w' : World) : Prop :=
  Below w.heap.size w w' ∧ ∃ cs, e = .returned (.tuple #[.agg cs.toArray, .int .i64 (errOf r)]) ∧ (r.getD zLight).own w.heap.size w' cs
theorem DecodesL.uni {r : Option LightD} {w w' : World} {e : Ending} (h : DecodesL r w e w') : DecodesU r w e w' := by
  obtain ⟨h1, h2⟩ := h
  cases r with
  | none => exact ⟨h1, _, h2, zLight_own _ _⟩
  | some d => obtain ⟨cs, h3, h4⟩ := h2; exact ⟨h1, cs, h3, h4⟩

def decCommit (l : List UInt8) : Option CommitD :=
  if (rdNum (some l)).1 = 4 ∧ (rdCommit (rdNum (some l)).2).2 = some [] ∧ okCommit (rdCommit (rdNum (some l)).2).1 = true then some (rdCommit (rdNum (some l)).2).1 else none
theorem decCommit_wf (l : List UInt8) : ((decCommit l).getD zCommit).wf := by
  unfold decCommit
  split
  · exact rdCommit_wf _
  · exact zCommit_wf
theorem enters_takeCommit : ∀ args w, (callFunc 92 args).run Tryd.prog w = .ok (.enter 92 args) w := enters Tryd.func92 (by kernel_rfl) rfl
theorem enters_checkCommit : ∀ args w, (callFunc 95 args).run Tryd.prog w = .ok (.enter 95 args) w := enters Tryd.func95 (by kernel_rfl) rfl
end Go.Proofs.YtaffpgafbjhahaaDoor
