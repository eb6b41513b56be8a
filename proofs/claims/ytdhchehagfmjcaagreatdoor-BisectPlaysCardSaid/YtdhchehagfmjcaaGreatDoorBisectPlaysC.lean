import Derived.Test.YtdhchehagfmjcaaGreatDoorCards
import Derived.Test.YtdhchehagfmjcaaGreatDoorTie
import Derived.Test.YtdhchehagfmjcaaGreatDoorLaw
import Derived.Test.YtdhchehagfmjcaaGreatDoorOpen
import Derived.Test.YtdhchehagfmjcaaGreatDoorOpB
import Derived.Test.YtdhchehagfmjcaaGreatDoorLx
import Derived.Test.YtdhchehagfmjcaaGreatDoorBlL
import Derived.ProofKit
import Derived.Deep.DeepHandedRow
import Derived.Deep.DeepLaidRun
namespace Go.Proofs.YtdhchehagfmjcaaGreatDoor
open Go.ChangeShapes Go.WideShapes Go.ChangeAt Go.RowKit
set_option maxRecDepth 100000
theorem own : ownKnob Tryz.prog.godebug = none := by kernel_rfl
theorem laidOut : laidOutB Tryz.prog = true := by kernel_rfl
noncomputable def low : Nat := (World.holding Tryz.prog default ⟨#[], #[], []⟩).heap.size
def tooLargeS : ByteArray := ⟨#[98, 121, 116, 101, 115, 46, 66, 117, 102, 102, 101, 114, 58, 32, 116, 111, 111, 32, 108, 97, 114, 103, 101]⟩
noncomputable def laidWorld (os : Os) : World :=
 let w0 := World.holding Tryz.prog os ⟨#[.cells #[.string tooLargeS] 259], #[], []⟩
 { w0 with heap := ((w0.heap.modify 2 fun
   | .cells _ t frozen => .cells #[.iface 243 (.pointer (some ⟨low, 0, none⟩))] t frozen
   | o => o).modify 1 fun
   | .cells _ t frozen => .cells #[.int .u32 1779033703, .int .u32 3144134277, .int .u32 1013904242, .int .u32 2773480762, .int .u32 1359893119, .int .u32 2600822924, .int .u32 528734635, .int .u32 1541459225] t frozen
   | o => o) }
def wArgs : Array Value := #[.slice none 0 0, .agg #[.float .f64 0, .float .f64 0, .float .f64 0], .slice none 0 0]
def wData {H : Type} : List (DataW H) := [.nil, .agg [.lit (.float .f64 0), .lit (.float .f64 0), .lit (.float .f64 0)], .nil]
theorem laid_met (os : Os) : laidMet Tryz.prog Rows.bisectPlaysRow.laid ((laidWorld os).forCall (fun _ _ => 0) ⟨#[], wArgs, []⟩).memory :=
 laidMet_of_run3 8 (by kernel_rfl) (by kernel_rfl) (by kernel_rfl)
theorem reads (os : Os) {H : Type} (enc : TypeId × Value → H) : ∃ places, DataW.whole enc Tryz.prog ((laidWorld os).forCall (fun _ _ => 0) ⟨#[], wArgs, []⟩).memory Tryz.f12.params.toList Rows.bisectPlaysSpec.vars false wArgs.toList 8 = some (wData, [], places) :=
 ⟨[], by kernel_rfl⟩
theorem params_fine : ∀ t ∈ Tryz.f12.params.toList, Tryz.prog.readableRec t = true ∧ t < Tryz.prog.types.size := by
 rw [Tryz.params12]
 intro t ht
 simp only [List.mem_cons, List.not_mem_nil, or_false] at ht
 rcases ht with rfl | rfl | rfl
 all_goals exact ⟨by kernel_rfl, of_decide_eq_true (by kernel_rfl)⟩
theorem contract (H : Type) (enc : TypeId × Value → H) (W : World) (base : Nat) (args : Array Value) (ds gs : List (DataW H)) (before : List MemPlace)
  (hval : ∀ (j : Nat) t v, Tryz.f12.params[j]? = some t → args[j]? = some v → Value.okWide Tryz.prog W .any base t v)
  (hW : DataW.Whole enc Tryz.prog Tryz.f12.params.toList Rows.bisectPlaysSpec.vars false W args.toList ds gs before)
  (hsz : (DataW.weightsEach Tryz.prog (Tryz.f12.params.toList ++ (OpenSpec.ofChange Rows.bisectPlaysSpec).bare.plain.varTypes Tryz.prog) (ds ++ gs)).all (· ≤ reachBytes) = true) (_hL : laidMetH Tryz.prog Rows.bisectPlaysRow.laid W) :
  Calls Tryz.prog 12 args W fun e W' => ∃ v, e = .returned v ∧ Rows.bisectPlaysSpec.post enc Tryz.prog Tryz.f12 false true false false W args v W' := by
 have hW' := hW
 obtain ⟨p, q, hA0, hV, rfl, hfz, hnd⟩ := hW
 have hA : DataW.TrodAll enc Tryz.prog W 0 (fun _ => true) true Tryz.f12.params.toList args.toList ds p := hA0
 rw [Tryz.params12] at hA hval
 obtain ⟨v0, v1, v2, d0, d1, d2, p0, p1, p2, rfl, rfl, rfl, h0, h1, h2⟩ := trodAll_three hA
 obtain ⟨rfl, rfl⟩ := trodVars_none hV
 obtain ⟨xs, rx, ex, hbx⟩ := lights_came (hval 0 70 v0 rfl rfl) h0
 rw [Tryz.params12] at hsz
 have cx : Came W v0 xs := ⟨rx, fun x hx => by
  obtain ⟨l, k1, k2, k3⟩ := ex x hx
  exact ⟨l, k1, k2, sized_at hsz 0 rfl rfl k3⟩⟩
 obtain ⟨o, ho, rfl⟩ := opt_open (hval 1 35 v1 rfl rfl)
 obtain ⟨s, rs, ws⟩ := acts_open (hval 2 71 v2 rfl rfl) h2
 have walk := (BisectPlays_any v0 xs o v2 s W cx ho rs ws (roots_laid _hL)).mono fun e w' h => (⟨h.1, ⟨h.2.os, h.2.tape, h.2.output, h.2.size, fun k hk => h.2.block k hk (by simp)⟩⟩ : e = .returned (.bool true) ∧ Below W.heap.size W w')
 refine walk.mono fun e W' ⟨he, hb⟩ => ?_
 subst he
 exact ⟨_, rfl, law_post laidOut params_fine rfl rfl Tryz.underlying4 rfl hW' hb⟩
theorem lifted (os : Os) (started : os.Started) (H : Type) (enc : TypeId × Value → H) (F : Stop.Interp) :
  ReturnsInHanded {} Tryz.checked os 12 .any ((OpenSpec.ofChange Rows.bisectPlaysSpec).preRow enc Tryz.prog Tryz.f12 Rows.bisectPlaysRow.domain false Rows.bisectPlaysRow.laid) (((OpenSpec.ofChange Rows.bisectPlaysSpec).at F).post enc Tryz.prog Tryz.f12 false true false false) := by
 obtain ⟨places, hx⟩ := reads os enc
 refine returnsInHanded_of_row (C := Tryz.checked) (s := OpenSpec.ofChange Rows.bisectPlaysSpec) own started (by kernel_rfl) Tryz.func12
  (witness_row_at (enc := enc) (C := Tryz.checked) false (laidWorld os) wArgs rfl (by kernel_rfl) (by kernel_rfl) (by kernel_rfl)
   (OpenSpec.preRow_of_cond 8 hx (by kernel_rfl) (fun k hk => by cases hk) (by kernel_rfl) (laid_met os))) ?_
 intro W base args ds gs before hval hW _ hcond hsz hL _ _
 exact contract H enc W base args ds gs before hval hW hsz hL
theorem said : Rows.BisectPlaysSaid :=
 OpenClaim.holds_of_cond 12 Tryz.f12 rfl rfl rfl rfl rfl rfl rfl ⟨rfl, rfl, rfl, rfl, rfl⟩ rfl rfl rfl rfl rfl (by kernel_rfl) Tryz.func12 (by kernel_rfl)
  (of_decide_eq_true (by kernel_rfl)) (by unfold Func.isWrapper; rw [if_neg (of_decide_eq_false (by kernel_rfl))]; exact ⟨rfl, rfl⟩)
  (fun os started H enc _ F => by rw [OpenClaim.pre_eq_preRow]; exact lifted os started H enc F)
theorem funcNum (f : FuncId) (hf : Tryz.prog.funcNamed Rows.bisectPlaysRow.func = some f) : f = 12 :=
 Option.some.inj (hf.symm.trans (show Tryz.prog.funcNamed Rows.bisectPlaysRow.func = some 12 by kernel_rfl))
theorem plain (f : FuncId) (fn : Func) (hf : Tryz.pinned.checked.prog.funcNamed Rows.bisectPlaysRow.func = some f) (hfn : Tryz.pinned.checked.prog.funcs[f]? = some fn) :
  true = Tryz.pinned.checked.prog.looks [] ∧ ∀ (j : Nat) t, fn.params[j]? = some t → Tryz.pinned.checked.prog.wantsStandIn t = false := by
 obtain rfl := funcNum f hf
 obtain rfl : fn = Tryz.f12 := (Option.some.inj (Tryz.func12.symm.trans hfn)).symm
 refine ⟨by kernel_rfl, fun j t ht => ?_⟩
 have hm := Array.mem_of_getElem? ht
 rw [Tryz.params12] at hm
 simp only [List.mem_toArray, List.mem_cons, List.not_mem_nil, or_false] at hm
 rcases hm with rfl | rfl | rfl
 all_goals first
  | exact (show Tryz.prog.wantsStandIn _ = false by kernel_rfl)
theorem bisectPlays_holds : Rows.BisectPlaysCardSaid :=
 Claim7.holds_tied_plain_at .later [] _ _ _ _ said (fun _ h => by cases h) (by kernel_rfl) (fun _ h => by cases h) bisectPlays_row_tie rfl ⟨rfl, rfl⟩ (by kernel_rfl) rfl plain (by kernel_rfl)
end Go.Proofs.YtdhchehagfmjcaaGreatDoor
