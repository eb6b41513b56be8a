/- The votes of a tally's map, one by one: the iterator of maps.Values. A range over a function whose loop variable is laid anew in each round. No program. Walks: slices.AppendSeq, slices.Collect, maps.Values at votes. Walks: slices.Collect and maps.Values at votes. -/
import Derived.Test.YtfnginmoiecgnaaDoorTl2
import Derived.Maps.RangeWalk
import Derived.Maps.OwnSet
import Derived.Maps.OwnIn
import Derived.Sort.MapsRangeIn
import Derived.RangeFuncIn
import Derived.RangeFuncOwn
import Derived.RangeFuncCalls
import Derived.RangeFuncLeaves
import Derived.RangeFuncBound
import Derived.RangeFuncGives
import Derived.OwnWalkIn
import Derived.TacticsInMore
import Derived.LoopNIn
import Derived.LoopIn
import Derived.CallsIn
import Derived.RangeFuncFrom
namespace Go.Proofs.YtfnginmoiecgnaaDoor
open Go.RowKit Go.Maps
set_option maxRecDepth 100000

section
variable {F : Fence} {n : Nat} {P : Program} {ops : Array Oper} {rest : List Oper} {o : Oper} {a : Act} {w w2 : World} {Q : Exit → Act → World → Prop}
theorem inList_value (hg : o.guard = none) (hab : o.about P w a.eval = none) (hd : ∀ c, o.op ≠ .defer c) {v : Value} (hrun : (execOp a.eval o).run P w = .ok (.value v) w2) (h : wpListIn F n P ops Q rest (a.put o.dst v) w2) : wpListIn F n P ops Q (o :: rest) a w := by
  refine wpListIn_plain hg fun K hK => ?_
  unfold Oper.wpIn
  refine ⟨fun f hf => (by rw [hab] at hf; cases hf), ?_⟩
  rw [Oper.semAt_plain F _ _ hd, hrun]
  exact hK _ _ h
theorem inList_skip (hg : o.guard = none) (hab : o.about P w a.eval = none) (hd : ∀ c, o.op ≠ .defer c) (hrun : (execOp a.eval o).run P w = .ok .skip w2) (h : wpListIn F n P ops Q rest (a.put o.dst undef) w2) : wpListIn F n P ops Q (o :: rest) a w := by
  refine wpListIn_plain hg fun K hK => ?_
  unfold Oper.wpIn
  refine ⟨fun f hf => (by rw [hab] at hf; cases hf), ?_⟩
  rw [Oper.semAt_plain F _ _ hd, hrun]
  exact hK _ _ h
theorem inList_load_part (hg : o.guard = none) (ty : TypeId) (x : Operand) (ho : o.op = .load ty x)
    (g k : Nat) (hx : a.eval x = .pointer (some ⟨g, k, none⟩)) (vs : List Value) (d : TypeDesc) (hr : RowAt w g k vs)
    (hu : P.underlying ty = some d) (hd : (match d with | .struct _ | .array _ _ => true | _ => false) = true) (hi : (P.info? ty).map (·.size) = some vs.length)
    (h : wpListIn F n P ops Q rest (a.put o.dst (.agg vs.toArray)) w) : wpListIn F n P ops Q (o :: rest) a w := by
  refine inList_value hg (by simp [Oper.about, ho]) (by rw [ho]; intro c hc; cases hc) ?_ h
  unfold execOp
  simp only [ho, hx, Instr.loadAt, Instr.sureAddr, Sem.run_bind, Sem.run_pure, Result.andThen_ok, run_loadVar_part w g k ty vs d hr hu hd hi]
theorem inList_alloc_as (hg : o.guard = none) (ty : TypeId) (ho : o.op = .alloc ty) (Z : List Value)
    (hz : (P.info? ty).map (fun i => i.zero.map (fun v => v.cells)) = some (some Z.toArray))
    (h : ∀ w2, Blk w2 w.heap.size Z ty → w.grownBy w2 none → w2.heap.size = w.heap.size + 1 → KeepsWalks w w2 → wpListIn F n P ops Q rest (a.put o.dst (.pointer (some ⟨w.heap.size, 0, none⟩))) w2) : wpListIn F n P ops Q (o :: rest) a w := by
  have hrun : (Instr.alloc ty true (.tuple #[])).run P w = .ok (.pointer (some ⟨w.heap.size, 0, none⟩)) (w.alloc (.cells Z.toArray ty)) := by
    cases hq : P.info? ty with
    | none => simp [hq] at hz
    | some i =>
      cases hv : i.zero with
      | none => simp [hq, hv] at hz
      | some v =>
        have hc : v.cells = Z.toArray := by simpa [hq, hv] using hz
        simp [Instr.alloc, Sem.run_bind, zeroValue, typeInfo, hq, hv, newVar, newRow, hc]
  refine inList_value hg (by simp [Oper.about, ho]) (by rw [ho]; intro c hc; cases hc) ?_ (h _ (Blk.new w Z ty) (World.grownBy_alloc w _ none) (by simp) (KeepsWalks.alloc _ _))
  unfold execOp
  simp only [ho, Sem.run_bind, Sem.run_pure, Result.andThen_ok, hrun]
theorem inList_store_whole (hg : o.guard = none) (ty : TypeId) (x y : Operand) (ho : o.op = .store ty x y)
    (g : Nat) (hx : a.eval x = .pointer (some ⟨g, 0, none⟩)) (vs cur : List Value) (T : TypeId) (hy : a.eval y = .agg vs.toArray) (hb : Blk w g cur T) (hfit : vs.length = cur.length)
    (h1 : ∀ v ∈ vs, v.oneCell' = true) (hi : (P.info? ty).map (·.size) = some vs.length)
    (h : ∀ w2, w.grownBy w2 (some g) → w2.heap.size = w.heap.size → Blk w2 g vs T → wpListIn F n P ops Q rest (a.put o.dst undef) w2) : wpListIn F n P ops Q (o :: rest) a w := by
  have hst := run_storeCells_at (P := P) g 0 T vs 0 cur.toArray w hb (by simp; omega) h1
  have e3 : cur.take 0 ++ vs ++ cur.drop (0 + vs.length) = vs := by rw [List.take_zero, List.nil_append, Nat.zero_add, List.drop_eq_nil_of_le (by omega), List.append_nil]
  have hrun : (storeVar ty ⟨g, 0, none⟩ (.agg vs.toArray)).run P w = .ok () (w.setRow g (cur.take 0 ++ vs ++ cur.drop (0 + vs.length)).toArray) := by
    cases hq : P.info? ty with
    | none => simp [hq] at hi
    | some i =>
      have hs : i.size = vs.length := by simpa [hq] using hi
      simpa [storeVar, Sem.run_bind, sizeOf, typeInfo, hq, hs, Value.cells] using hst
  rw [e3] at hrun
  refine inList_skip (w2 := w.setRow g vs.toArray) hg (by simp [Oper.about, ho]) (by rw [ho]; intro c hc; cases hc) ?_ (h _ ⟨rfl, rfl, rfl, by simp, fun j _ hj => setRow_other w g j _ (by simpa using hj)⟩ (by simp) (setRow_heap w g cur.toArray _ T (0, 0) hb))
  unfold execOp
  simp only [ho, hx, hy, Instr.storeAt, Instr.sureAddr, Sem.run_bind, Sem.run_pure, Result.andThen_ok, hrun]
end

/-- a map's keys that have come: xs' votes -/
def Came (cnt xs : List VoteD) (left : Lit → Bool) : Prop := (∀ u ∈ xs, u ∈ cnt) ∧ (xs.map (·.key)).Nodup ∧ ∀ u ∈ cnt, (left (.int .u64 u.key) = false ↔ u ∈ xs)
theorem u64_inj {a b : Int} (h : Lit.int .u64 a = .int .u64 b) : a = b := by injection h
theorem key_inj {l : List VoteD} (h : (l.map (·.key)).Nodup) : ∀ u ∈ l, ∀ v ∈ l, u.key = v.key → u = v := by
  induction l with
  | nil => intro u hu; cases hu
  | cons x l ih =>
    rw [List.map_cons, List.nodup_cons] at h
    intro u hu v hv e
    have no : ∀ y ∈ l, y.key ≠ x.key := fun y hy e => h.1 (List.mem_map.2 ⟨y, hy, e⟩)
    rcases List.mem_cons.1 hu with eu | hu'
    · rcases List.mem_cons.1 hv with ev | hv'
      · rw [eu, ev]
      · exact absurd (by rw [← e, eu]) (no v hv')
    · rcases List.mem_cons.1 hv with ev | hv'
      · exact absurd (by rw [e, ev]) (no u hu')
      · exact ih h.2 u hu' v hv' e
theorem Came.step {cnt xs : List VoteD} {left : Lit → Bool} (h : Came cnt xs left) (hn : (cnt.map (·.key)).Nodup) (_hw : ∀ u ∈ cnt, u.wf) {o : VoteD} (ho : o ∈ cnt) (hl : left (.int .u64 o.key) = true) : Came cnt (xs ++ [o]) (fun z => left z && !z.sameKey (.int .u64 o.key)) := by
  obtain ⟨h1, h2, h3⟩ := h
  have hno : o ∉ xs := fun hx => by have := (h3 o ho).2 hx; rw [hl] at this; cases this
  refine ⟨fun u hu => ?_, ?_, fun u hu => ?_⟩
  · rcases List.mem_append.1 hu with hu | hu
    · exact h1 u hu
    · simp at hu; subst hu; exact ho
  · rw [List.map_append, List.nodup_append]
    refine ⟨h2, by simp, fun a ha b hb e => ?_⟩
    simp at hb
    subst hb e
    obtain ⟨u, hu, e⟩ := List.mem_map.1 ha
    have := key_inj hn u (h1 u hu) o ho e
    subst this
    exact hno hu
  · by_cases e : u = o
    · subst e
      have : (Lit.int .u64 u.key).sameKey (.int .u64 u.key) = true := by simp [Lit.sameKey]
      simp [this]
    · have hne : (Lit.int .u64 u.key).sameKey (.int .u64 o.key) = false := Maps.sameKey_ne fun h => e (key_inj hn u hu o ho (u64_inj h))
      simp only [hne, Bool.not_false, Bool.and_true]
      rw [h3 u hu]
      simp [e]
theorem Came.all {cnt xs : List VoteD} {left : Lit → Bool} (h : Came cnt xs left) (hl : ∀ z, left z = false) : (∀ u, u ∈ xs ↔ u ∈ cnt) ∧ (xs.map (·.key)).Nodup :=
  ⟨fun u => ⟨h.1 u, fun hu => (h.2.2 u hu).1 (hl _)⟩, h.2.1⟩

/-- what maps.Values gives -/
def AllV (cnt xs : List VoteD) : Prop := (∀ u, u ∈ xs ↔ u ∈ cnt) ∧ (xs.map (·.key)).Nodup
set_option maxHeartbeats 2000000 in
theorem vals1_in (F : Fence) (n : Nat) (hF : F.fn 82) (hro : F.round = none) (hn : 1 ≤ n) (l Bm b nn : Nat) (D0 : DataW Value) (cnt : List VoteD) (hw : ∀ u ∈ cnt, u.wf) (hnd : (cnt.map (·.key)).Nodup) (hV : VotesR D0 cnt) (J : List VoteD → World → Prop)
    (hY : ∀ pre x W, J pre W → pre.length < Maps.size D0 → x ∈ cnt → YieldAt F (n - 1) Tryd.prog l #[.agg x.cells.toArray] W fun e W' => e = .returned (.bool true) ∧ J (pre ++ [x]) W' ∧ KeepsWalks W W')
    (W : World) (hJ : AbidesFrom W.heap.size J) (hm : W.cell? ⟨Bm, 0, none⟩ = some (.map (some b))) (hown : W.ownsMap Tryd.prog 22 heldR b nn D0) (h0 : J [] W) :
    CallsIn F n Tryd.prog 82 #[.func (.yield l) #[] #[], .pointer (some ⟨Bm, 0, none⟩)] W fun e W' => (∃ v, e = .returned v) ∧ ∃ xs : List VoteD, AllV cnt xs ∧ J xs W' := by
  refine callsIn_of_wp Tryd.func82 rfl hF ?_ hro
  simp only [Tryd.ntmps82, List.size_toArray, List.length_cons, List.length_nil, Nat.reduceAdd, Nat.reduceSub, Array.replicate_succ, Array.replicate_zero, List.push_toArray, List.append_toArray, List.nil_append, List.cons_append]
  gi_wp2_with (first
    | (gi_at_range; refine wpListIn_range_own _ rfl _ 81 rfl 22 29 key_law Tryd.underlying81 _ b nn _ rfl hown ?_; intro w0 hrg0 hg0 hs0)
    | gi_in)
  go_frame
  gi_loopw [4] (fun _ wr => ∃ (left : Lit → Bool) (ct : Nat) (xs : List VoteD), wr.ranges Tryd.prog 22 heldR b W.heap.size nn D0 left ct ∧ xs.length + ct ≤ Maps.size D0 ∧ Came cnt xs left ∧ J xs wr)
    (fun _ wr => wr.rangeLeft b W.heap.size)
  case atStart =>
    refine ⟨_, _, [], hrg0, by simp, ⟨by simp, by simp, fun u hu => ?_⟩, hJ [] W w0 none h0 hg0 (fun r e => by cases e)⟩
    have hh := (hV u.key (hw u hu).key).1
    have hs : (findK cnt u.key).isSome = true := by
      unfold findK
      rw [List.find?_isSome]
      exact ⟨u, hu, by simp⟩
    rw [hs] at hh
    simp [hh]
  case round =>
    obtain ⟨left, ct, xs, hrg, hcs, hC, hJs⟩ := hrel
    gi_wp2_with (first
      | (gi_at_next; refine wpListIn_next_ranges (α := Int) (β := Value) _ rfl _ rfl 22 key_law heldR (Value.int .u64) id (fun key kl hk => by obtain ⟨x, hx, _⟩ := Maps.keyOf_int_inv Tryd.underlying22 hk; exact ⟨x, hx⟩) (fun v _ _ => ⟨v, rfl⟩) b W.heap.size nn _ _ _ rfl hrg ?_ ?_)
      | gi_in)
    · intro hc0 hl0
      gi_wp2
      go_end0
      exact ⟨⟨_, rfl⟩, xs, hC.all hl0, hJs⟩
    · intro x c kl yd yp w2 cnt2 hkey hlk hv hat hrg2 hlt hg2 hs2 hen
      obtain ⟨x', ex, rfl, hwx⟩ := Maps.keyOf_int_inv Tryd.underlying22 hkey
      cases ex
      have hux : u64R x := by
        have e1 : IntKind.u64.min = 0 := rfl
        have e2 : IntKind.u64.max = 18446744073709551615 := rfl
        simp only [Lit.wf, e1, e2, Bool.and_eq_true, decide_eq_true_eq] at hwx
        unfold u64R; omega
      have hvx := hV x hux
      rw [Maps.has_true_of_atKey hat] at hvx
      obtain ⟨u, hu⟩ := Option.isSome_iff_exists.1 hvx.1.symm
      have hum := findK_some hu
      have hc : c = .agg u.cells.toArray := by
        have e1 := (hat (.held (.agg ZVote.toArray))).symm.trans hvx.2
        rw [hu] at e1
        unfold heldR at hv
        injection hv with hv; injection hv with hv _
        rw [← hv] at e1
        simpa using e1
      have hk : u.key = x := hum.2
      subst hk
      subst hc
      have hJ2 : J xs w2 := hJ _ wr w2 (some W.heap.size) hJs hg2 (fun r e => by cases e; exact ⟨Nat.le_refl _, hrg.iter_walk⟩)
      have hul := u.cells_length (hw u hum.1)
      obtain ⟨e, he⟩ : ∃ e, w2.heap.size = e := ⟨_, rfl⟩
      have HE := Lib.hid he; have HLK := Lib.hid hlk; have HUM := Lib.hid hum; have HLT := Lib.hid hlt; have R2 := Lib.hid hrg2; have J2 := Lib.hid hJ2; have HY := Lib.hid hY; have HJ := Lib.hid hJ; have HC := Lib.hid hC; have HW := Lib.hid hw; have HN := Lib.hid hnd; have HUL := Lib.hid hul; have HRG := Lib.hid hrg
      clear hs2 he hkey hlk hv hat hvx hu hux hwx hum hrg2 hJ2 hY hJ hC hw hnd hul hV hJs hrg hg2 hown hm h0
      gi_wp2_with (refine inList_alloc_as rfl 29 rfl ZVote ZVote_info ?_)
      intro w3 b3 g3 s3 k3
      rw [HE.out] at b3 ⊢
      have B3 := Lib.hid b3; have G3 := Lib.hid g3; have K3 := Lib.hid k3; have T0 := trivial
      clear b3 g3 s3 k3 T0
      gi_wp2_with (first | (refine inList_store_whole rfl 29 _ _ rfl e rfl u.cells ZVote 29 rfl B3.out (by rw [HUL.out]; rfl) (VoteD_one _) (sizeVote _ HUL.out) ?_))
      intro w4 g4 s4 b4
      have hJ4 : J xs w4 := HJ.out xs w2 w4 none J2.out (grown_new G3.out g4 (by rw [HE.out]; exact Nat.le_refl _)) (fun r e => by cases e)
      have R4 := Lib.hid ((R2.out.of_walks K3.out).of_walks (KeepsWalks.of_grownBy g4 (fun j ob hj ho => by cases hj; rw [show w3.heap[e]? = _ from B3.out] at ho; cases ho; rfl)))
      obtain ⟨fn, tmps, assign, body, hy, hR⟩ := HY.out xs u w4 hJ4 (by omega) HUM.out.1
      have B4 := Lib.hid b4; have HR := Lib.hid hR
      clear b4 g4 s4 hR
      gi_wp2_with (first | (refine inList_load_part rfl 29 _ rfl e 0 rfl u.cells _ B4.out.row Tryd.underlying29 rfl (sizeVote _ HUL.out) ?_))
      refine HR.out.mono ?_
      rintro e9 W3 ⟨rfl, hJ3, hk3⟩
      gi_wp2
      have hrg3 := R4.out.of_walks hk3
      go_roundw
      case rel => exact ⟨_, cnt2, xs ++ [u], hrg3, by simp; omega, HC.out.step HN.out HW.out HUM.out.1 HLK.out, hJ3⟩
      case measure => rw [hrg3.left_eq, HRG.out.left_eq]; exact HLT.out

/-- what is no cells stays -/
structure Kc (W W' : World) : Prop where
  size : W.heap.size ≤ W'.heap.size
  same : ∀ (j : Nat) (o : Obj), W.heap[j]? = some o → o.isCells = false → W'.heap[j]? = some o
theorem Kc.walks {W W' : World} (h : Kc W W') : KeepsWalks W W' := ⟨h.size, fun k o hk ho => h.same k o hk (Obj.not_cells_of_walk ho)⟩
theorem Kc.none {W W' : World} (h : W.grownBy W' none) : Kc W W' := ⟨h.size, fun j o hj _ => (h.block j (Array.getElem?_eq_some_iff.1 hj).1 (by simp)).trans hj⟩
theorem Kc.row {W W' : World} {b : Option Nat} (h : W.grownBy W' b) (hb : ∀ j o, b = some j → W.heap[j]? = some o → o.isCells = true) : Kc W W' :=
  ⟨h.size, fun j o hj ho => (h.block j (Array.getElem?_eq_some_iff.1 hj).1 (fun e => by rw [hb j o e.symm hj] at ho; cases ho)).trans hj⟩
theorem Kc.trans {A B C : World} (h : Kc A B) (k : Kc B C) : Kc A C := ⟨Nat.le_trans h.size k.size, fun j o hj ho => k.same j o (h.same j o hj ho) ho⟩
theorem put_grown (W : World) (l : Nat) (o : Obj) : W.grownBy (W.putObj l o) (some l) :=
  ⟨rfl, rfl, rfl, by simp, fun k _ hk => World.putObj_heap_other (fun e => hk (by rw [e]))⟩

theorem wpIn_rangeFunc_V {F : Fence} {n : Nat} {P : Program} {α : Type} {g : Operand} {ps : Array Tmp} {assign body : Code} {Q : Exit → Act → World → Prop} {a : Act} {w : World}
    (hro : F.round = none) (h1 : 1 ≤ n) {gf : Nat} {lb : Array Value} (hg : a.eval g = .func (.func gf) #[] lb) (hFg : F.fn gf) (eg : ∀ args w, (callFunc gf args).run P w = .ok (.enter gf args) w)
    {enc : α → Value} (hps : ps.size = 1) {C : α → Prop} {S : List α → Prop} {N : Nat}
    (hseq : ∀ (l : Nat) (J : List α → World → Prop) (W : World), w.grownBy W none → AbidesFrom W.heap.size J →
      (∀ pre x W1, J pre W1 → pre.length < N → C x → YieldAt F (n - 1 - 1) P l #[enc x] W1 fun e W' => e = .returned (.bool true) ∧ J (pre ++ [x]) W' ∧ KeepsWalks W1 W') → J [] W →
      CallsIn F (n - 1) P gf (#[.func (.yield l) #[] #[]] ++ lb) W fun e W' => (∃ v, e = .returned v) ∧ ∃ xs, S xs ∧ J xs W')
    (I : List α → World → Prop) (hI : OwnFrom w.heap.size I) (h0 : I [] w) (M : Act → List α → α → World → Prop) (hM : ∀ a₁ pre x W l o', w.heap.size ≤ l → (∃ o : Obj, W.heap[l]? = some o ∧ o.isCells = false) → M a₁ pre x W → M a₁ pre x (W.putObj l o'))
    (hassign : ∀ (l : Nat) (pre : List α) (x : α) (W : World) (K : Act → World → Prop), I pre W → pre.length < N → C x → (∀ a₁ W₁, W.grownBy W₁ none → M a₁ pre x W₁ → K a₁ W₁) →
      assign.wpIn (F.inRound l) (n - 1 - 1) P (Exit.then K (fun _ _ _ => False)) { tmps := (ps.zip #[enc x]).foldl (fun t (p, v) => t.setIfInBounds p v) a.tmps, defers := [] } W)
    (hbody : ∀ (l : Nat) (pre : List α) (x : α) (a₁ : Act) (W : World) (K : Exit → Act → World → Prop), M a₁ pre x W → pre.length < N → (∀ a₂ W', I (pre ++ [x]) W' → Kc W W' → K .normal a₂ W') → body.wpIn (F.inRound l) (n - 1 - 1) P K a₁ W)
    (hdone : ∀ (D : Nat) (xs : List α) (W : World), w.heap.size ≤ D → S xs → I xs W → W.heap[D]? = some (.deferred (some [])) → Q .normal { a with defers := { target := .collected D, args := #[] } :: a.defers } W) :
    (Code.rangeFunc g ps assign body).wpIn F n P Q a w := by
  refine wpIn_rangeFunc ?_
  intro fn hfn
  rw [hro]
  obtain ⟨rec, hrec⟩ : ∃ rec : LoopState → Loop, rec = fun st => { state := st, pending := none, fn, tmps := a.tmps, params := ps, assign, body, defers := w.heap.size } := ⟨_, rfl⟩
  obtain ⟨W1, hW1⟩ : ∃ W1, (w.alloc (.deferred (some []))).alloc (.loop (rec .ready)) = W1 := ⟨_, rfl⟩
  have hg1 : w.grownBy W1 none := by rw [← hW1]; exact Lib.grownBy_trans (World.grownBy_alloc w _ none) (World.grownBy_alloc _ _ none)
  have hL1 : W1.heap[w.heap.size + 1]? = some (.loop (rec .ready)) := by
    rw [← hW1]; have := World.alloc_heap_new (w.alloc (.deferred (some []))) (.loop (rec .ready)); rwa [World.size_alloc] at this
  have hK1 : W1.heap[w.heap.size]? = some (.deferred (some [])) := by
    rw [← hW1]; exact (Below.heap_alloc _ _ _ (by simp)).trans (World.alloc_heap_new w _)
  have hs1 : W1.heap.size = w.heap.size + 2 := by rw [← hW1]; simp
  have hI1 : I [] W1 := by rw [← hW1]; exact hI.alloc _ (hI.alloc _ h0)
  refine ⟨w.heap.size + 1, [{ target := .collected w.heap.size, args := #[] }], W1, { target := .fn (.func gf) lb, args := #[.func (.yield (w.heap.size + 1)) #[] #[]] }, W1, gf,
    #[.func (.yield (w.heap.size + 1)) #[] #[]] ++ lb, W1, ?_, ?_, ?_, ?_, fun _ => h1, ?_⟩
  · rw [← hW1, hrec]; exact run_enterLoop_outer _ _ _ _ _
  · simp only [resolve, hg]
    simp [go_sem]
  · intro f' hf'; simp [Target.leads] at hf'; subst hf'; exact hFg
  · simp [invoke, go_sem, eg]
  · refine (hseq (w.heap.size + 1) (fun pre W => I pre W ∧ W.heap[w.heap.size + 1]? = some (.loop (rec .ready)) ∧ W.heap[w.heap.size]? = some (.deferred (some []))) W1 hg1
      (fun s A B row hs hg' hr => ⟨hI s A B row hs.1 hg' (fun r e => by obtain ⟨hB, o, ho, hw⟩ := hr r e; exact ⟨by omega, o, ho, Obj.not_cells_of_walk hw⟩), (grownBy_keeps hg' (fun r e => (hr r e).2) hs.2.1 rfl).trans hs.2.1, (grownBy_keeps hg' (fun r e => (hr r e).2) hs.2.2 rfl).trans hs.2.2⟩)
      ?_ ⟨hI1, hL1, hK1⟩).mono ?_
    · rintro pre x W ⟨hi, hl, hk⟩ hlen hC
      have hy := run_yield (P := P) (args := #[enc x]) hl (by rw [hrec]; simp [hps])
      rw [hrec] at hy
      refine ⟨fn, _, assign, body, hy, roundIn_of_wpIn hfn (hassign _ pre x W _ hi hlen hC ?_)⟩
      intro a₁ W₁ g₁ hm
      have hl1 : W₁.heap[w.heap.size + 1]? = some (.loop (rec .ready)) := (Kc.none g₁).same _ _ hl rfl
      have hk1 : W₁.heap[w.heap.size]? = some (.deferred (some [])) := (Kc.none g₁).same _ _ hk rfl
      have hlt : w.heap.size + 1 < W₁.heap.size := (Array.getElem?_eq_some_iff.1 hl1).1
      refine ⟨_, run_beginRound hl1 (by rw [hrec]), ?_⟩
      obtain ⟨W2, hW2⟩ : ∃ W2, W₁.putObj (w.heap.size + 1) (.loop { rec .ready with state := .busy }) = W2 := ⟨_, rfl⟩
      rw [hW2]
      have hl2 : W2.heap[w.heap.size + 1]? = some (.loop { rec .ready with state := .busy }) := by rw [← hW2]; exact World.putObj_heap_same hlt
      have hk2 : W2.heap[w.heap.size]? = some (.deferred (some [])) := by rw [← hW2]; exact (World.putObj_heap_other (by omega)).trans hk1
      have hm2 : M a₁ pre x W2 := by rw [← hW2]; exact hM _ _ _ _ _ _ (by omega) ⟨_, hl1, rfl⟩ hm
      refine hbody _ pre x a₁ W2 _ hm2 hlen ?_
      intro a₂ W3 hI3 hkc
      have hl3 := hkc.same _ _ hl2 rfl
      have hk3 := hkc.same _ _ hk2 rfl
      refine ⟨_, _, run_endRound none hl3, rfl, ⟨hI.putObj _ hI3 (by omega) hl3 rfl, ?_, (World.putObj_heap_other (by omega)).trans hk3⟩, ?_⟩
      · have := World.putObj_heap_same (w := W3) (o := .loop (rec .ready)) (Array.getElem?_eq_some_iff.1 hl3).1
        rw [hrec] at this ⊢
        exact this
      · refine (Kc.none g₁).walks.trans ?_
        refine KeepsWalks.trans ?_ (hkc.walks.trans (KeepsWalks.putObj _ hl3 rfl))
        rw [← hW2]; exact KeepsWalks.putObj _ hl1 rfl
    · rintro e W2 ⟨⟨v, rfl⟩, xs, hS, hi, hl, hk⟩
      have hp : (rec .ready).pending = none := by rw [hrec]
      refine ⟨none, _, by rw [← hp]; exact run_endLoop hl (by rw [hrec]; simp), ?_⟩
      exact hdone _ xs _ (Nat.le_refl _) hS (hI.putObj _ hi (by omega) hl rfl) ((World.putObj_heap_other (by omega)).trans hk)

section
variable {F : Fence} {n : Nat} {P : Program} {ops : Array Oper} {rest : List Oper} {o : Oper} {a : Act} {w w2 : World} {Q : Exit → Act → World → Prop}
theorem run_one (t e : TypeId) (ht : P.underlying t = some (.slice e)) (Z xs : List Value) (k : Nat) (hk : 0 < k) (hk2 : k ≤ 1000) (hz : (P.info? e).map (fun i => (i.zero.map (fun v => v.cells), i.size)) = some (some Z.toArray, k)) (hZ : Z.length = k) (hx : xs.length = k) :
    (Instr.buildSlice t 1 #[(0, .agg xs.toArray)]).run P w = .ok (.slice (some ⟨w.heap.size, 0, none⟩) 1 1) (w.alloc (.cells xs.toArray e)) := by
  cases hq : P.info? e with
  | none => simp [hq] at hz
  | some i =>
    cases hv : i.zero with
    | none => simp [hq, hv] at hz
    | some v =>
      have hc : v.cells = Z.toArray ∧ i.size = k := by simpa [hq, hv] using hz
      have hs : i.size = k := hc.2
      have f : Instr.fill (fun j => some (j * k, k)) ((Array.range (1 * k)).map (Z.toArray[· % Z.toArray.size]!)) [(0, .agg xs.toArray)] = some xs.toArray := by
        generalize hM : (Array.range (1 * k)).map (Z.toArray[· % Z.toArray.size]!) = M
        have hM2 : M.size = k := by rw [← hM]; simp
        rw [fill_one _ 0 0 xs M _ (by rw [hx, Nat.zero_mul]) (by omega)]
        unfold Instr.fill
        congr 2
        simp only [List.take_zero, List.nil_append, Nat.zero_add]
        rw [List.drop_eq_nil_of_le (by simp; omega), List.append_nil]
      have hsz : (sizeOf e).run P w = .ok k w := by simp [sizeOf, typeInfo, hq, hs, Sem.run_bind]
      have hzr : (zeroValue e).run P w = .ok v w := by simp [zeroValue, typeInfo, hq, hv, Sem.run_bind]
      unfold Instr.buildSlice
      simp only [Sem.run_bind, run_underlying ht, Result.andThen_ok, hsz, gt_iff_lt]
      rw [if_neg (by omega), if_neg (by omega)]
      simp only [Sem.run_bind, hzr, Result.andThen_ok, Sem.run_pure, hc.1, f]
      rfl
theorem inList_one (hg : o.guard = none) (t e : TypeId) (x : Operand) (ho : o.op = .buildSlice t 1 #[(0, x)]) (ht : P.underlying t = some (.slice e)) (Z xs : List Value) (k : Nat) (hk : 0 < k) (hk2 : k ≤ 1000) (hz : (P.info? e).map (fun i => (i.zero.map (fun v => v.cells), i.size)) = some (some Z.toArray, k)) (hZ : Z.length = k) (hx : xs.length = k)
    (hxe : a.eval x = .agg xs.toArray)
    (h : ∀ w2, Blk w2 w.heap.size xs e → w.grownBy w2 none → w2.heap.size = w.heap.size + 1 → wpListIn F n P ops Q rest (a.put o.dst (.slice (some ⟨w.heap.size, 0, none⟩) 1 1)) w2) : wpListIn F n P ops Q (o :: rest) a w := by
  have hrun := run_one (w := w) t e ht Z xs k hk hk2 hz hZ hx
  refine inList_value hg (by simp [Oper.about, ho]) (by rw [ho]; intro c hc; cases hc) ?_ (h _ (Blk.new w xs e) (World.grownBy_alloc w _ none) (by simp))
  unfold execOp
  simp only [ho, hxe, List.map_toArray, List.map_cons, List.map_nil, Sem.run_bind, Sem.run_pure, Result.andThen_ok, hrun]
theorem inList_append_lies (hg : o.guard = none) (s x : Operand) (t : TypeId)
    (ho : o.op = .call { callee := .builtin .append, args := #[s, x], argTypes := #[t, t] })
    (base : Nat) (e : TypeId) (i : TypeInfo) (z : Value) (size bytes : Nat) (ht : P.underlying t = some (.slice e)) (hi : P.info? e = some i) (hz : i.zero = some z)
    (hsize : i.size = size) (hby : i.bytes = bytes) (hzs : z.cells.size = size) (hsz : 0 < size)
    (v : Value) (k : Nat) (xs : List Value) (hs : a.eval s = v) (hown : w.ownsRow base e size v k xs)
    (ad : Addr) (m c : Nat) (news : List Value) (hx : a.eval x = .slice (some ad) m c) (hl : news.length = m * size) (hnews : ∀ j u, news[j]? = some u → w.cell? (ad.add j) = some u) (h1 : ∀ u ∈ news, u.oneCell' = true)
    (hm : 0 < m) (h63 : k + m ≤ maxLen) (hbytes : (k + m) * bytes ≤ 140737488355328) (hbase : base ≤ w.heap.size) (H : Nat) (hH : w.heap.size = H)
    (h : ∀ g cap w', w'.ownsRow base e size (.slice (some ⟨g, 0, none⟩) (k + m) cap) (k + m) (xs ++ news) → w.grownBy w' v.ownBlock → (v.ownBlock = some g ∨ g = H) → g < w'.heap.size → wpListIn F n P ops Q rest (a.put o.dst (.slice (some ⟨g, 0, none⟩) (k + m) cap)) w') : wpListIn F n P ops Q (o :: rest) a w := by
  obtain ⟨g, cap, w', hr, h2, h3, h4, h5⟩ := run_append_lies (P := P) w t o.type base e i z size bytes ht hi hz hsize hby hzs hsz v k xs hown ad m c news hl hnews h1 hm h63 hbytes hbase H hH
  refine inList_value hg (by simp [Oper.about, ho, resolve, Target.leads, Sem.run_pure]) (by rw [ho]; intro c hc; cases hc) ?_ (h g cap w' h2 h3 h4 h5)
  unfold execOp
  simp only [ho, resolve, invoke, builtin, Sem.run_bind, Sem.run_pure, Result.andThen_ok, List.map_toArray, List.map_cons, List.map_nil, hs, hx, hr]
theorem inList_load_cell (hg : o.guard = none) (ty : TypeId) (x : Operand) (ho : o.op = .load ty x) (g k : Nat) (hx : a.eval x = .pointer (some ⟨g, k, none⟩)) {v : Value} (hrun : (loadVar ty ⟨g, k, none⟩).run P w = .ok v w) (h : wpListIn F n P ops Q rest (a.put o.dst v) w) : wpListIn F n P ops Q (o :: rest) a w := by
  refine inList_value hg (by simp [Oper.about, ho]) (by rw [ho]; intro c hc; cases hc) ?_ h
  unfold execOp
  simp only [ho, hx, Instr.loadAt, Instr.sureAddr, Sem.run_bind, Sem.run_pure, Result.andThen_ok, hrun]
theorem inList_store_cell (hg : o.guard = none) (ty : TypeId) (x y : Operand) (ho : o.op = .store ty x y)
    (g k : Nat) (hx : a.eval x = .pointer (some ⟨g, k, none⟩)) (v : Value) (hy : a.eval y = v) (hv : v.oneCell' = true) (cur : List Value) (T : TypeId) (hb : Blk w g cur T) (hk : k < cur.length)
    (hi : (P.info? ty).map (·.size) = some 1)
    (h : ∀ w2, w.grownBy w2 (some g) → w2.heap.size = w.heap.size → Blk w2 g (cur.set k v) T → wpListIn F n P ops Q rest (a.put o.dst undef) w2) : wpListIn F n P ops Q (o :: rest) a w := by
  have hst := run_storeCells_at (P := P) g k T [v] 0 cur.toArray w hb (by simp; omega) (by simpa using hv)
  have hc : v.cells = #[v] := by cases v <;> first | rfl | cases hv
  have e : cur.take k ++ [v] ++ cur.drop (k + 1) = cur.set k v := by rw [List.set_eq_take_append_cons_drop, if_pos hk]; simp
  have hrun : (storeVar ty ⟨g, k, none⟩ v).run P w = .ok () (w.setRow g (cur.set k v).toArray) := by
    rw [← e]
    cases hq : P.info? ty with
    | none => simp [hq] at hi
    | some i =>
      have hs : i.size = 1 := by simpa [hq] using hi
      simpa [storeVar, Sem.run_bind, sizeOf, typeInfo, hq, hs, hc] using hst
  refine inList_skip (w2 := w.setRow g (cur.set k v).toArray) hg (by simp [Oper.about, ho]) (by rw [ho]; intro c hc; cases hc) ?_ (h _ ⟨rfl, rfl, rfl, by simp, fun j _ hj => setRow_other w g j _ (by simpa using hj)⟩ (by simp) (setRow_heap w g cur.toArray _ T (0, 0) hb))
  unfold execOp
  simp only [ho, hx, hy, Instr.storeAt, Instr.sureAddr, Sem.run_bind, Sem.run_pure, Result.andThen_ok, hrun]
end

def vsCells (l : List VoteD) : List Value := l.flatMap VoteD.cells
/-- between two rounds -/
def ApI (w : World) (pre : List VoteD) (W : World) : Prop := ∃ v, Blk W w.heap.size [v] 41 ∧ W.ownsRow w.heap.size 29 39 v pre.length (vsCells pre) ∧ w.grownBy W none ∧ v.ownBlock ≠ some w.heap.size
theorem row_kept {W W' : World} {row : Option Nat} {B size n : Nat} {e : TypeId} {v : Value} {xs : List Value} (h : W.ownsRow B e size v n xs) (g : W.grownBy W' row) (hr : ∀ r, row = some r → ∃ o : Obj, W.heap[r]? = some o ∧ o.isCells = false) : W'.ownsRow B e size v n xs := by
  refine h.kept g ?_
  rcases h.2 with ⟨rfl, _⟩ | ⟨g', cap, cur, rfl, _, hgb, _⟩
  · exact .inl rfl
  · refine .inr fun e' => ?_
    obtain ⟨o, ho, hc⟩ := hr g' (by simpa [Value.ownBlock] using e'.symm)
    rw [hgb] at ho; cases ho; cases hc
theorem ApI_own (w : World) (B : Nat) (hB : w.heap.size ≤ B) : OwnFrom B (ApI w) := by
  rintro s W W' row ⟨v, hb, ho, hg, hv⟩ g hr
  refine ⟨v, hb.grown g (fun e => ?_), row_kept ho g (fun r e => (hr r e).2), World.grownBy.andThen hg g (fun j hj => Or.inl (Nat.le_trans hB (hr j hj).1)), hv⟩
  obtain ⟨_, o, ho, hc⟩ := hr _ e.symm
  rw [show W.heap[w.heap.size]? = _ from hb] at ho
  cases ho; cases hc

/-- in a round: the loop variable lies in a block of its own -/
def ApM (w : World) (seq : Value) (a₁ : Act) (pre : List VoteD) (x : VoteD) (W : World) : Prop := ∃ e, a₁ = { tmps := #[.slice none 0 0, seq, .pointer (some ⟨w.heap.size, 0, none⟩), undef, .slice none 0 0, .pointer (some ⟨e, 0, none⟩), seq, .agg x.cells.toArray, undef, undef, undef, undef, undef], defers := [] } ∧
  x.wf ∧ Blk W e x.cells 29 ∧ w.heap.size < e ∧ ∃ v, Blk W w.heap.size [v] 41 ∧ W.ownsRow w.heap.size 29 39 v pre.length (vsCells pre) ∧ w.grownBy W none ∧ v.ownBlock ≠ some w.heap.size ∧ v.ownBlock ≠ some e
theorem ApM_put (w : World) (seq : Value) (a₁ : Act) (pre : List VoteD) (x : VoteD) (W : World) (l : Nat) (o' : Obj) (hl : w.heap.size ≤ l) (ho : ∃ o : Obj, W.heap[l]? = some o ∧ o.isCells = false) (h : ApM w seq a₁ pre x W) : ApM w seq a₁ pre x (W.putObj l o') := by
  obtain ⟨e, ha, hx, he, hne, v, hb, hr, hg, hv, hve⟩ := h
  obtain ⟨o, ho, hc⟩ := ho
  have g := put_grown W l o'
  have n1 : ∀ j cs t, W.heap[j]? = some (.cells cs t (0, 0)) → j ≠ l := fun j cs t hj e => by rw [e, ho] at hj; cases hj; cases hc
  exact ⟨e, ha, hx, he.grown g (by have := n1 _ _ _ he; simp; omega), hne, v, hb.grown g (by have := n1 _ _ _ hb; simp; omega), row_kept hr g (fun r e => by cases e; exact ⟨o, ho, hc⟩), World.grownBy.andThen hg g (fun j e => by cases e; exact Or.inl hl), hv, hve⟩

set_option maxHeartbeats 4000000 in
theorem appSeq_votes (Bm mb nn : Nat) (D0 : DataW Value) (cnt : List VoteD) (w : World) (hc : w.cell? ⟨Bm, 0, none⟩ = some (.map (some mb))) (hown : w.ownsMap Tryd.prog 22 heldR mb nn D0) (hw : ∀ u ∈ cnt, u.wf) (hnd : (cnt.map (·.key)).Nodup) (hV : VotesR D0 cnt) (hsz : Maps.size D0 ≤ 1000) :
    Calls Tryd.prog 81 #[.slice none 0 0, .func (.func 82) #[] #[.pointer (some ⟨Bm, 0, none⟩)]] w fun e w' => ∃ v xs, e = .returned v ∧ AllV cnt xs ∧ w'.ownsRow w.heap.size 29 39 v xs.length (vsCells xs) ∧ w.grownBy w' none := by
  have HM := Lib.hid (show ∀ W, w.grownBy W none → W.ownsMap Tryd.prog 22 heldR mb nn D0 from fun W g => hown.kept g (by simp))
  have HC := Lib.hid (show ∀ W, w.grownBy W none → W.cell? ⟨Bm, 0, none⟩ = some (.map (some mb)) from fun W g => g.cell (a := ⟨Bm, 0, none⟩) hc (by simp))
  have HSz := Lib.hid hsz; have HW := Lib.hid hw; have HN := Lib.hid hnd; have HV := Lib.hid hV
  clear hown hc hsz hw hnd hV
  refine (callsIn_wide (n := 6)).1 ?_
  refine callsIn_of_wp_marks Tryd.func81 rfl trivial ?_ rfl
  simp only [Tryd.ntmps81, List.size_toArray, List.length_cons, List.length_nil, Nat.reduceAdd, Nat.reduceSub, Array.replicate_succ, Array.replicate_zero, List.push_toArray, List.append_toArray, List.nil_append, List.cons_append]
  gi_wp2
  obtain ⟨W0, hW0⟩ : ∃ W0, w.alloc (.cells #[.slice none 0 0] 41) = W0 := ⟨_, rfl⟩
  have hg0 : w.grownBy W0 none := hW0 ▸ World.grownBy_alloc w _ none
  have hb0 : Blk W0 w.heap.size [.slice none 0 0] 41 := hW0 ▸ Blk.new w [.slice none 0 0] _
  have hs0 : W0.heap.size = w.heap.size + 1 := by rw [← hW0]; simp
  rw [hW0]
  have HG0 := Lib.hid hg0; have HS0 := Lib.hid hs0
  refine wpIn_rangeFunc_V (α := VoteD) (enc := fun x => .agg x.cells.toArray) rfl (by decide) rfl trivial (enters_of Tryd.func82 (by kernel_rfl) rfl) rfl (C := (· ∈ cnt)) (S := AllV cnt) (N := Maps.size D0)
    (fun l J W g hJ hY h0 => vals1_in Fence.wide 5 trivial rfl (by decide) l Bm mb nn D0 cnt HW.out HN.out HV.out J (fun pre x W hj hl hx => hY pre x W hj hl hx) W hJ (HC.out W (Lib.grownBy_trans HG0.out g)) (HM.out W (Lib.grownBy_trans HG0.out g)) h0)
    (ApI w) (ApI_own w W0.heap.size (by omega)) ⟨_, hb0, ⟨rfl, .inl ⟨rfl, rfl⟩⟩, hg0, by simp [Value.ownBlock]⟩ (ApM w (.func (.func 82) #[] #[.pointer (some ⟨Bm, 0, none⟩)])) (fun a₁ pre x W l o' hl ho h => ApM_put w _ a₁ pre x W l o' (by omega) ho h) ?_ ?_ ?_
  · intro l pre x W K hI hlen hx hK
    obtain ⟨v, hb, hr, hg, hv⟩ := hI
    have HB := Lib.hid hb; have HR := Lib.hid hr; have HG := Lib.hid hg; have HVb := Lib.hid hv; have HK := Lib.hid hK
    have HXw := Lib.hid (HW.out x hx)
    have HXl := Lib.hid (x.cells_length (HW.out x hx))
    obtain ⟨e, he⟩ : ∃ e, W.heap.size = e := ⟨_, rfl⟩
    have HE := Lib.hid he
    clear hb hr hg hv hK he hx
    simp only [List.zip_toArray, List.zip_cons_cons, List.zip_nil_right, List.size_toArray, List.length_cons, List.length_nil]
    gi_wp2_with (refine inList_alloc_as rfl 29 rfl ZVote ZVote_info ?_)
    intro w3 b3 g3 s3 k3
    rw [HE.out] at b3 ⊢
    have B3 := Lib.hid b3; have G3 := Lib.hid g3
    clear b3 g3 s3 k3
    gi_wp2_with (refine inList_store_whole rfl 29 _ _ rfl e rfl x.cells ZVote 29 rfl B3.out (by rw [HXl.out]; rfl) (VoteD_one _) (sizeVote _ HXl.out) ?_)
    intro w4 g4 s4 b4
    have G4 := grown_new G3.out g4 (by rw [HE.out]; exact Nat.le_refl _)
    gi_wp2
    refine HK.out _ w4 G4 ⟨e, rfl, HXw.out, b4, ?_, v, HB.out.grown G4 (by simp), row_kept HR.out G4 (fun r e => by cases e), Lib.grownBy_trans HG.out G4, HVb.out, ?_⟩
    · have := HB.out.lt; have := HE.out; omega
    · intro h; have := ownsRow.lt HR.out h; have := HE.out; omega
  · intro l pre x a₁ W K hM hlen hK
    obtain ⟨e, rfl, hxw, he, hwe, v, hb, hr, hg, hv, hve⟩ := hM
    have HB := Lib.hid hb; have HR := Lib.hid hr; have HG := Lib.hid hg; have HVb := Lib.hid hv; have HVe := Lib.hid hve; have HK := Lib.hid hK; have HE := Lib.hid he; have HWe := Lib.hid hwe
    have HXl := Lib.hid (x.cells_length hxw)
    have c0 := hb.row 0 _ rfl
    rw [Nat.zero_add] at c0
    have HC0 := Lib.hid c0
    obtain ⟨ta, tn, tc, hvs⟩ : ∃ a b c, v = .slice a b c := by rcases hr.2 with ⟨h, _⟩ | ⟨g, cap, cur, h, _⟩ <;> exact ⟨_, _, _, h⟩
    subst hvs
    obtain ⟨iV, hi, hz, hsz, hby⟩ := voteInfo
    have HIV := Lib.hid (And.intro hi (And.intro hz (And.intro hsz hby)))
    have HLen := Lib.hid hlen
    clear hi hz hsz hby hb hr hg hv hve hK he hwe c0 hlen
    gi_wp2_with (first
      | (refine inList_load_cell rfl 41 _ rfl w.heap.size 0 rfl (v := .slice ta tn tc) (by have c := HC0.out; go_simp) ?_)
      | (refine inList_load_part rfl 29 _ rfl e 0 rfl x.cells _ HE.out.row Tryd.underlying29 rfl (sizeVote _ HXl.out) ?_)
      | (refine inList_one rfl 41 29 _ rfl Tryd.underlying41 ZVote x.cells 39 (by decide) (by decide) (by kernel_rfl) ZVote_length HXl.out rfl ?_))
    intro w2 b2 g2 s2
    obtain ⟨r, hr⟩ : ∃ r, W.heap.size = r := ⟨_, rfl⟩
    have HRr := Lib.hid hr
    rw [hr] at b2 s2 ⊢
    have B2 := Lib.hid b2; have G2 := Lib.hid g2; have R2 := Lib.hid (row_kept HR.out g2 (fun r e => by cases e)); have BB2 := Lib.hid (HB.out.grown g2 (by simp)); have GW2 := Lib.hid (Lib.grownBy_trans HG.out g2)
    clear b2 g2 s2 hr
    gi_wp2_with (refine inList_append_lies rfl _ _ 41 rfl w.heap.size 29 iV (.agg ZVote.toArray) 39 96 Tryd.underlying41 HIV.out.1 HIV.out.2.1 HIV.out.2.2.1 HIV.out.2.2.2 rfl (by decide) (.slice ta tn tc) pre.length (vsCells pre) rfl R2.out ⟨r, 0, none⟩ 1 1 x.cells rfl (by rw [HXl.out]) (fun j u hj => by rw [Addr.add_mid]; exact B2.out.row j u hj) (fun u hu => VoteD_one _ u hu) (by decide) (Nat.le_trans (show pre.length + 1 ≤ 1001 by have := HLen.out; have := HSz.out; omega) (by decide)) (Nat.le_trans (show (pre.length + 1) * 96 ≤ 96096 by have := HLen.out; have := HSz.out; omega) (by decide)) GW2.out.size _ rfl ?_)
    intro g cap w3 r3 g3 hat hlt
    have hgb : g ≠ w.heap.size := by
      rcases hat with h | h
      · intro e2; exact HVb.out (by rw [h, e2])
      · have := BB2.out.lt; omega
    have BB3 := Lib.hid (BB2.out.grown g3 (fun e2 => HVb.out e2.symm)); have R3 := Lib.hid r3; have GW3 := Lib.hid (World.grownBy.andThen GW2.out g3 (fun j hj => Or.inl (R2.out.lt j hj).1))
    have HGb := Lib.hid hgb
    have K3 := Lib.hid ((Kc.none G2.out).trans (Kc.row g3 (fun j o hj ho => by
      rcases R2.out.2 with ⟨h, _⟩ | ⟨g', cap', cur, h, _, hh, _⟩
      · rw [h] at hj; simp [Value.ownBlock] at hj
      · rw [h] at hj; simp [Value.ownBlock] at hj; subst hj; rw [hh] at ho; cases ho; rfl)))
    clear r3 g3 hat hlt hgb
    gi_wp2_with (refine inList_store_cell rfl 41 _ _ rfl w.heap.size 0 rfl (.slice (some ⟨g, 0, none⟩) (pre.length + 1) cap) rfl rfl _ 41 BB3.out (by simp) (by kernel_rfl) ?_)
    intro w4 g4 s4 b4
    gi_wp2
    refine HK.out _ w4 ⟨_, b4, ?_, World.grownBy.andThen GW3.out g4 (fun j hj => by cases hj; exact Or.inl (Nat.le_refl _)), by simp [Value.ownBlock]; exact HGb.out⟩ (K3.out.trans (Kc.row g4 (fun j o hj ho => by cases hj; rw [show w3.heap[w.heap.size]? = _ from BB3.out] at ho; cases ho; rfl)))
    have h := R3.out.kept g4 (Or.inr (by simp [Value.ownBlock]; exact HGb.out))
    simpa [vsCells] using h
  · intro D xs W hD hS hI hK
    obtain ⟨v, hb, hr, hg, hv⟩ := hI
    have HB := Lib.hid hb; have HR := Lib.hid hr; have HG := Lib.hid hg; have HK := Lib.hid hK; have HD := Lib.hid hD; have HS := Lib.hid hS
    have c0 := hb.row 0 _ rfl
    rw [Nat.zero_add] at c0
    obtain ⟨ta, tn, tc, hvs⟩ : ∃ a b c, v = .slice a b c := by rcases hr.2 with ⟨h, _⟩ | ⟨g, cap, cur, h, _⟩ <;> exact ⟨_, _, _, h⟩
    subst hvs
    clear hb hr hg hv hK hD hS
    gi_wp2
    refine ⟨by simp, .inl ⟨_, _, rfl, run_takeDeferred HK.out, ?_⟩⟩
    refine ⟨_, results_tmp rfl _ _ _, _, xs, rfl, HS.out, row_kept HR.out (put_grown W D _) (fun r e => by cases e; exact ⟨_, HK.out, rfl⟩), World.grownBy.andThen HG.out (put_grown W D _) (fun j e => by cases e; have := HD.out; have := HS0.out; exact Or.inl (by omega))⟩

theorem values_votes (mb : Nat) (w : World) : Calls Tryd.prog 54 #[.map (some mb)] w fun e w' => e = .returned (.func (.func 82) #[] #[.pointer (some ⟨w.heap.size, 0, none⟩)]) ∧ w' = w.alloc (.cells #[.map (some mb)] 81) := by
  have hmf : ∀ (fn : Fn) (first cap : Array Value) (w : World), (Instr.makeFunc fn first cap).run Tryd.prog w = .ok (.func fn first cap) w := fun _ _ _ _ => rfl
  go_enter Tryd.func54, Tryd.ntmps54
  go_wp2_with fail
  go_ret
  exact ⟨rfl, rfl⟩
theorem isNaN_u64 (x : Int) (w : World) : Calls Tryd.prog 85 #[.int .u64 x] w fun e w' => e = .returned (.bool false) ∧ w = w' := by
  go_enter Tryd.func85, Tryd.ntmps85
  go_wp2_with fail
  go_ret
  exact ⟨rfl, rfl⟩
/-- cmp.Compare -/
def cmpU (x y : Int) : Int := if x < y then -1 else if y < x then 1 else 0
set_option maxHeartbeats 1000000 in
theorem compare_u64 (x y : Int) (w : World) : Calls Tryd.prog 57 #[.int .u64 x, .int .u64 y] w fun e w' => e = .returned (.int .i64 (cmpU x y)) ∧ w = w' := by
  have C := Lib.hid isNaN_u64
  cases h1 : decide (x < y) with
  | true =>
    have E := Lib.hid (show cmpU x y = -1 by unfold cmpU; rw [if_pos (by simpa using h1)])
    go_enter Tryd.func57, Tryd.ntmps57
    go_wp2_with (go_at_call 85; (with_reducible refine (C.out _ _).mono ?_); rintro e w' ⟨rfl, rfl⟩)
    go_ret
    rw [E.out]
    exact ⟨rfl, rfl⟩
  | false =>
    cases h2 : decide (y < x) with
    | true =>
      have E := Lib.hid (show cmpU x y = 1 by unfold cmpU; rw [if_neg (by simpa using h1), if_pos (by simpa using h2)])
      go_enter Tryd.func57, Tryd.ntmps57
      go_wp2_with (go_at_call 85; (with_reducible refine (C.out _ _).mono ?_); rintro e w' ⟨rfl, rfl⟩)
      go_ret
      rw [E.out]
      exact ⟨rfl, rfl⟩
    | false =>
      have E := Lib.hid (show cmpU x y = 0 by unfold cmpU; rw [if_neg (by simpa using h1), if_neg (by simpa using h2)])
      go_enter Tryd.func57, Tryd.ntmps57
      go_wp2_with (go_at_call 85; (with_reducible refine (C.out _ _).mono ?_); rintro e w' ⟨rfl, rfl⟩)
      go_ret
      rw [E.out]
      exact ⟨rfl, rfl⟩
theorem wpList_box_eq {P : Program} {ops : Array Oper} {rest : List Oper} {o : Oper} {a : Act} {w : World} {Q : Exit → Act → World → Prop} (hgd : Region.wanted o (yielded ops a.tmps) = true) (ty : TypeId) (x : Operand) (ho : o.op = .box ty x) (vs : List Value) (hx : a.eval x = .agg vs.toArray)
    (h : wpList P ops Q rest (a.put o.dst (.pointer (some ⟨w.heap.size, 0, none⟩))) (w.alloc (.cells vs.toArray ty))) : wpList P ops Q (o :: rest) a w := by
  refine wpList_wanted hgd fun K hK => ?_
  have hrun : (Instr.box ty (.agg vs.toArray)).run P w = .ok (.pointer (some ⟨w.heap.size, 0, none⟩)) (w.alloc (.cells vs.toArray ty)) := by
    simp [Instr.box, newVar, newRow, Value.cells]
  unfold Oper.wp execOp
  simp only [ho, hx, Sem.run_bind, Sem.run_pure, Result.andThen_ok, hrun]
  exact hK _ _ h
set_option maxHeartbeats 1000000 in
/-- the closure of Votes: two blocks are laid -/
theorem votes_cmp (x y : VoteD) (hx : x.wf) (hy : y.wf) (w : World) : Calls Tryd.prog 56 #[.agg x.cells.toArray, .agg y.cells.toArray] w fun e w' => e = .returned (.int .i64 (cmpU x.key y.key)) ∧ w' = (w.alloc (.cells x.cells.toArray 29)).alloc (.cells y.cells.toArray 29) := by
  obtain ⟨w1, hw1⟩ : ∃ w1, w.alloc (.cells x.cells.toArray 29) = w1 := ⟨_, rfl⟩
  obtain ⟨w2, hw2⟩ : ∃ w2, w1.alloc (.cells y.cells.toArray 29) = w2 := ⟨_, rfl⟩
  have b1 : Blk w1 w.heap.size x.cells 29 := hw1 ▸ Blk.new w x.cells 29
  have b2 : Blk w2 w1.heap.size y.cells 29 := hw2 ▸ Blk.new w1 y.cells 29
  have g2 : w1.grownBy w2 none := hw2 ▸ World.grownBy_alloc w1 _ none
  have c1 := (VoteD.At.of_row hx (b1.grown g2 (by simp)).row).key
  have c2 := (VoteD.At.of_row hy b2.row).key
  rw [Nat.zero_add] at c1 c2
  have C := Lib.hid (compare_u64 x.key y.key w2)
  rw [hw1, hw2]
  have H1 := Lib.hid hw1; have H2 := Lib.hid hw2
  obtain ⟨kx, hkx⟩ : ∃ k, x.key = k := ⟨_, rfl⟩
  obtain ⟨ky, hky⟩ : ∃ k, y.key = k := ⟨_, rfl⟩
  rw [hkx] at c1 C; rw [hky] at c2 C
  rw [hkx, hky]
  clear b1 b2 g2 hw1 hw2 hx hy hkx hky
  go_enter Tryd.func56, Tryd.ntmps56
  go_wp2_with (first | (refine wpList_box_eq rfl 29 _ rfl x.cells rfl ?_; rw [H1.out]) | (refine wpList_box_eq rfl 29 _ rfl y.cells rfl ?_; rw [H2.out]))
  refine C.out.mono ?_
  rintro e w3 ⟨rfl, rfl⟩
  go_wp2_with fail
  go_ret
  exact ⟨rfl, rfl⟩
set_option maxHeartbeats 1000000 in
theorem collect_votes (Bm mb nn : Nat) (D0 : DataW Value) (cnt : List VoteD) (w : World) (hc : w.cell? ⟨Bm, 0, none⟩ = some (.map (some mb))) (hown : w.ownsMap Tryd.prog 22 heldR mb nn D0) (hw : ∀ u ∈ cnt, u.wf) (hnd : (cnt.map (·.key)).Nodup) (hV : VotesR D0 cnt) (hsz : Maps.size D0 ≤ 1000) :
    Calls Tryd.prog 53 #[.func (.func 82) #[] #[.pointer (some ⟨Bm, 0, none⟩)]] w fun e w' => ∃ v xs, e = .returned v ∧ AllV cnt xs ∧ w'.ownsRow w.heap.size 29 39 v xs.length (vsCells xs) ∧ w.grownBy w' none := by
  have CA := Lib.hid (appSeq_votes Bm mb nn D0 cnt w hc hown hw hnd hV hsz)
  clear hc hown hw hnd hV hsz
  go_enter Tryd.func53, Tryd.ntmps53
  go_wp2_with fail
  refine CA.out.mono ?_
  rintro e w1 ⟨v, xs, rfl, hS, ho, hg⟩
  obtain ⟨ta, tn, tc, hvs⟩ : ∃ a b c, v = .slice a b c := by rcases ho.2 with ⟨h, _⟩ | ⟨g, cap, cur, h, _⟩ <;> exact ⟨_, _, _, h⟩
  subst hvs
  have HS := Lib.hid hS; have HO := Lib.hid ho; have HG := Lib.hid hg
  clear hS ho hg CA
  go_wp2_with fail
  go_ret
  exact ⟨_, xs, rfl, HS.out, HO.out, HG.out⟩

end Go.Proofs.YtfnginmoiecgnaaDoor
