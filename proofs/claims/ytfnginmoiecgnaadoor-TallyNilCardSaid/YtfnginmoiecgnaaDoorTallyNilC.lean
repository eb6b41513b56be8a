/- TallyNil: no tally: each of its methods answers ErrArg, or nothing: the law answers true, and what came in reads as it did. Of every input; the listed package-level variables hold what the program's text lays (the card ties them). -/
import Derived.Test.YtfnginmoiecgnaaDoorCards
import Derived.Test.YtfnginmoiecgnaaDoorTie
import Derived.Test.YtfnginmoiecgnaaDoorLaw
import Derived.Test.YtfnginmoiecgnaaDoorOpen
import Derived.Test.YtfnginmoiecgnaaDoorOpenH
import Derived.Test.YtfnginmoiecgnaaDoorTaN
import Derived.ProofKit
import Derived.Deep.DeepHandedRow
import Derived.Deep.DeepLaidRun
namespace Go.Proofs.YtfnginmoiecgnaaDoor
open Go.ChangeShapes Go.WideShapes Go.ChangeAt Go.RowKit
set_option maxRecDepth 100000

theorem own : ownKnob Tryd.prog.godebug = none := by kernel_rfl
theorem laidOut : laidOutB Tryd.prog = true := by kernel_rfl
theorem vote_types : Tryd.prog.cellTypes Tryd.prog.depth 29 = some ([9, 3, 3, 23] ++ List.replicate 32 5 ++ [22, 22, 22]) := by kernel_rfl
theorem vote_open {W : World} {base : Nat} {v : Value} (h : Value.okWide Tryd.prog W .any base 29 v) : ∃ d : VoteD, d.wf ∧ v = d.val := by
  obtain ⟨cs, rfl, hc⟩ := cells_open h (by kernel_rfl) vote_types (by kernel_rfl)
  rw [List.append_assoc] at hc
  obtain ⟨c0, r0, rfl, h0, hc⟩ := cellsOk_cons hc
  obtain ⟨c1, r1, rfl, h1, hc⟩ := cellsOk_cons hc
  obtain ⟨c2, r2, rfl, h2, hc⟩ := cellsOk_cons hc
  obtain ⟨c3, r3, rfl, h3, hc⟩ := cellsOk_cons hc
  obtain ⟨l, r4, rfl, hl, hc⟩ := bytes_cells Tryd.underlying5 32 _ _ hc
  obtain ⟨c4, r5, rfl, h4, hc⟩ := cellsOk_cons hc
  obtain ⟨c5, r6, rfl, h5, hc⟩ := cellsOk_cons hc
  obtain ⟨c6, r7, rfl, h6, hc⟩ := cellsOk_cons hc
  obtain rfl := cellsOk_nil hc
  obtain ⟨s, rfl, hs⟩ := string_cell Tryd.underlying9 h0
  obtain ⟨n1, rfl, q1⟩ := i64_cell Tryd.underlying3 h1
  obtain ⟨n2, rfl, q2⟩ := i64_cell Tryd.underlying3 h2
  obtain ⟨n3, rfl, q3⟩ := i64_cell Tryd.underlying23 h3
  obtain ⟨n4, rfl, q4⟩ := u64_cell Tryd.underlying22 h4
  obtain ⟨n5, rfl, q5⟩ := u64_cell Tryd.underlying22 h5
  obtain ⟨n6, rfl, q6⟩ := u64_cell Tryd.underlying22 h6
  exact ⟨⟨s, n1, n2, n3, l, n4, n5, n6⟩, ⟨hs, q1, q2, q3, hl, q4, q5, q6⟩, by simp [VoteD.val, VoteD.cells]⟩

/-- where the first new block lies -/
noncomputable def low : Nat := (World.holding Tryd.prog default ⟨#[], #[], []⟩).heap.size
def tooLargeS : ByteArray := ⟨#[98, 121, 116, 101, 115, 46, 66, 117, 102, 102, 101, 114, 58, 32, 116, 111, 111, 32, 108, 97, 114, 103, 101]⟩
/-- a world for the witness -/
noncomputable def laidWorld (os : Os) : World :=
  let w0 := World.holding Tryd.prog os ⟨#[.cells #[.string tooLargeS] 212], #[], []⟩
  { w0 with heap := ((w0.heap.modify 3 fun
      | .cells _ t frozen => .cells #[.iface 196 (.pointer (some ⟨low, 0, none⟩))] t frozen
      | o => o).modify 0 fun
      | .cells _ t frozen => .cells #[.int .u32 1779033703, .int .u32 3144134277, .int .u32 1013904242, .int .u32 2773480762, .int .u32 1359893119, .int .u32 2600822924, .int .u32 528734635, .int .u32 1541459225] t frozen
      | o => o) }
def wArgs : Array Value := #[.agg (([.string ⟨#[]⟩, .int .i64 0, .int .i64 0, .int .i64 0] ++ List.replicate 32 (.int .u8 0) ++ [.int .u64 0, .int .u64 0, .int .u64 0] : List Value)).toArray]
def wData {H : Type} : List (DataW H) := [.agg [.lit (.string []), .lit (.int .i64 0), .lit (.int .i64 0), .lit (.int .i64 0), .agg (List.replicate 32 (.lit (.int .u8 0))), .lit (.int .u64 0), .agg [.lit (.int .u64 0), .lit (.int .u64 0)]]]
theorem laid_met (os : Os) : laidMet Tryd.prog Rows.tallyNilRow.laid ((laidWorld os).forCall (fun _ _ => 0) ⟨#[], wArgs, []⟩).memory :=
  laidMet_of_run3 8 (by kernel_rfl) (by kernel_rfl) (by kernel_rfl)
theorem reads (os : Os) {H : Type} (enc : TypeId × Value → H) : ∃ places, DataW.whole enc Tryd.prog ((laidWorld os).forCall (fun _ _ => 0) ⟨#[], wArgs, []⟩).memory Tryd.f7.params.toList Rows.tallyNilSpec.vars false wArgs.toList 8 = some (wData, [], places) :=
  ⟨[], by kernel_rfl⟩
theorem params_fine : ∀ t ∈ Tryd.f7.params.toList, Tryd.prog.readableRec t = true ∧ t < Tryd.prog.types.size := by
  rw [Tryd.params7]
  intro t ht
  simp only [List.mem_cons, List.not_mem_nil, or_false] at ht
  rcases ht with rfl
  all_goals exact ⟨by kernel_rfl, of_decide_eq_true (by kernel_rfl)⟩

/-- what the walk gives, for every input -/
theorem contract (H : Type) (enc : TypeId × Value → H) (W : World) (base : Nat) (args : Array Value) (ds gs : List (DataW H)) (before : List MemPlace)
    (hval : ∀ (j : Nat) t v, Tryd.f7.params[j]? = some t → args[j]? = some v → Value.okWide Tryd.prog W .any base t v)
    (hW : DataW.Whole enc Tryd.prog Tryd.f7.params.toList Rows.tallyNilSpec.vars false W args.toList ds gs before)
    (_hL : laidMetH Tryd.prog Rows.tallyNilRow.laid W) :
    Calls Tryd.prog 7 args W fun e W' => ∃ v, e = .returned v ∧ Rows.tallyNilSpec.post enc Tryd.prog Tryd.f7 false true false false W args v W' := by
  have hW' := hW
  obtain ⟨p, q, hA0, hV, rfl, hfz, hnd⟩ := hW
  have hA : DataW.TrodAll enc Tryd.prog W 0 (fun _ => true) true Tryd.f7.params.toList args.toList ds p := hA0
  rw [Tryd.params7] at hA hval
  obtain ⟨v0, d0, rfl, rfl, h0⟩ := trodAll_one hA
  obtain ⟨rfl, rfl⟩ := trodVars_none hV
  obtain ⟨x, hx, rfl⟩ := vote_open (hval 0 29 v0 rfl rfl)
  have walk := TallyNil_any x W hx (roots_laid _hL)
  refine walk.mono fun e W' ⟨he, hb⟩ => ?_
  subst he
  exact ⟨_, rfl, law_post laidOut params_fine rfl rfl Tryd.underlying4 rfl hW' hb⟩

theorem lifted (os : Os) (started : os.Started) (H : Type) (enc : TypeId × Value → H) (F : Stop.Interp) :
    ReturnsInHanded {} Tryd.checked os 7 .any ((OpenSpec.ofChange Rows.tallyNilSpec).preRow enc Tryd.prog Tryd.f7 Rows.tallyNilRow.domain false Rows.tallyNilRow.laid) (((OpenSpec.ofChange Rows.tallyNilSpec).at F).post enc Tryd.prog Tryd.f7 false true false false) := by
  obtain ⟨places, hx⟩ := reads os enc
  refine returnsInHanded_of_row (C := Tryd.checked) (s := OpenSpec.ofChange Rows.tallyNilSpec) own started (by kernel_rfl) Tryd.func7
    (witness_row_at (enc := enc) (C := Tryd.checked) false (laidWorld os) wArgs rfl (by kernel_rfl) (by kernel_rfl) (by kernel_rfl)
      (OpenSpec.preRow_of_cond 8 hx (by kernel_rfl) (fun k hk => by cases hk) (by kernel_rfl) (laid_met os))) ?_
  intro W base args ds gs before hval hW _ hcond _ hL _ _
  exact contract H enc W base args ds gs before hval hW hL

theorem said : Rows.TallyNilSaid :=
  OpenClaim.holds_of_cond 7 Tryd.f7 rfl rfl rfl rfl rfl rfl rfl ⟨rfl, rfl, rfl, rfl, rfl⟩ rfl rfl rfl rfl rfl (by kernel_rfl) Tryd.func7 (by kernel_rfl)
    (of_decide_eq_true (by kernel_rfl)) (by unfold Func.isWrapper; rw [if_neg (of_decide_eq_false (by kernel_rfl))]; exact ⟨rfl, rfl⟩)
    (fun os started H enc _ F => by rw [OpenClaim.pre_eq_preRow]; exact lifted os started H enc F)

theorem funcNum (f : FuncId) (hf : Tryd.prog.funcNamed Rows.tallyNilRow.func = some f) : f = 7 :=
  Option.some.inj (hf.symm.trans (show Tryd.prog.funcNamed Rows.tallyNilRow.func = some 7 by kernel_rfl))
theorem plain (f : FuncId) (fn : Func) (hf : Tryd.pinned.checked.prog.funcNamed Rows.tallyNilRow.func = some f) (hfn : Tryd.pinned.checked.prog.funcs[f]? = some fn) :
    true = Tryd.pinned.checked.prog.looks [] ∧ ∀ (j : Nat) t, fn.params[j]? = some t → Tryd.pinned.checked.prog.wantsStandIn t = false := by
  obtain rfl := funcNum f hf
  obtain rfl : fn = Tryd.f7 := (Option.some.inj (Tryd.func7.symm.trans hfn)).symm
  refine ⟨by kernel_rfl, fun j t ht => ?_⟩
  have hm := Array.mem_of_getElem? ht
  rw [Tryd.params7] at hm
  simp only [List.mem_toArray, List.mem_cons, List.not_mem_nil, or_false] at hm
  rcases hm with rfl
  all_goals first
    | exact (show Tryd.prog.wantsStandIn _ = false by kernel_rfl)

theorem tallyNil_holds : Rows.TallyNilCardSaid :=
  Claim7.holds_tied_plain_at .later [] _ _ _ _ said (fun _ h => by cases h) (by kernel_rfl) (fun _ h => by cases h) tallyNil_row_tie rfl ⟨rfl, rfl⟩ (by kernel_rfl) rfl plain (by kernel_rfl)

end Go.Proofs.YtfnginmoiecgnaaDoor
