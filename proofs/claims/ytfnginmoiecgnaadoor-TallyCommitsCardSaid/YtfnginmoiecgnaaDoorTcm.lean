/- Seals, plainly: when a commit is right; what a tally commits. What a tally commits, plainly. Walk: nunciolaw09.TallyCommits. -/
import Derived.Test.YtfnginmoiecgnaaDoorCk
import Derived.Test.YtfnginmoiecgnaaDoorOr
namespace Go.Proofs.YtfnginmoiecgnaaDoor
open Go.RowKit
set_option maxRecDepth 100000

def RiseP (l : List SealD) : Prop := (l.map (·.key)).Pairwise (· < ·)
def SgnP (ds : List ValD) (chain : ByteArray) (c : CommitD) : Prop := ∀ s ∈ c.seals, powL s.key ds = 0 ∨ signedB (stand chain c s) = true
def powS (ds : List ValD) (l : List SealD) : Int := (l.map fun s => powL s.key ds).sum
theorem riseS_iff (l : List SealD) : ∀ k, riseS l k = true ↔ ∀ i, i + 1 < k → keyS l i < keyS l (i + 1)
  | 0 => by simp [riseS]
  | k + 1 => by
    rw [riseS, Bool.and_eq_true, riseS_iff l k, Bool.or_eq_true, beq_iff_eq, decide_eq_true_eq]
    constructor
    · rintro ⟨h1, h2⟩ i hi
      by_cases h : i + 1 < k
      · exact h1 i h
      · obtain rfl : k = i + 1 := by omega
        rcases h2 with h2 | h2
        · omega
        · exact h2
    · intro h
      refine ⟨fun i hi => h i (by omega), ?_⟩
      by_cases h0 : k = 0
      · exact .inl h0
      · have := h (k - 1) (by omega)
        rw [show k - 1 + 1 = k by omega] at this
        exact .inr this
theorem rise_all {f : Nat → Int} {n : Nat} (h : ∀ i, i + 1 < n → f i < f (i + 1)) : ∀ j i, i < j → j < n → f i < f j
  | 0, i, hi, _ => absurd hi (Nat.not_lt_zero _)
  | j + 1, i, hi, hj => by
    have := h j hj
    by_cases e : i = j
    · subst e; exact this
    · exact Int.lt_trans (rise_all h j i (by omega) (by omega)) this
theorem rise_pw (l : List SealD) : riseS l l.length = true ↔ RiseP l := by
  rw [riseS_iff, RiseP, List.pairwise_iff_getElem]
  constructor
  · intro h i j hi hj hij
    rw [List.length_map] at hi hj
    have := rise_all h j i hij hj
    rw [keyS_get hi, keyS_get hj] at this
    simpa using this
  · intro h i hi
    have := h i (i + 1) (by rw [List.length_map]; omega) (by rw [List.length_map]; omega) (by omega)
    rw [keyS_get (show i < l.length by omega), keyS_get hi]
    simpa using this
theorem sumS_sum (ds : List ValD) (c : CommitD) : ∀ k, k ≤ c.seals.length → sumS ds c k = powS ds (c.seals.take k)
  | 0, _ => by simp [sumS, powS]
  | k + 1, hk => by
    have e : c.seals.take (k + 1) = c.seals.take k ++ [c.seals[k]] := by rw [List.take_add_one, List.getElem?_eq_getElem (by omega)]; rfl
    rw [sumS, sumS_sum ds c k (by omega), sealAt_get (by omega), e, powS, powS, List.map_append, List.sum_append]
    simp
theorem allS_iff (ds : List ValD) (c : CommitD) : ∀ k, allS ds c k = true ↔ ∀ i, i < k → powL (sealAt c.seals i).key ds ≠ 0
  | 0 => by simp [allS]
  | k + 1 => by
    rw [allS, Bool.and_eq_true, allS_iff ds c k, decide_eq_true_eq]
    constructor
    · rintro ⟨h1, h2⟩ i hi
      by_cases e : i = k
      · subst e; exact h2
      · exact h1 i (by omega)
    · exact fun h => ⟨fun i hi => h i (by omega), h k (by omega)⟩
theorem sgnS_iff (ds : List ValD) (chain : ByteArray) (c : CommitD) : ∀ k, sgnS ds chain c k = true ↔ ∀ i, i < k → powL (sealAt c.seals i).key ds = 0 ∨ signedB (stand chain c (sealAt c.seals i)) = true
  | 0 => by simp [sgnS]
  | k + 1 => by
    rw [sgnS, Bool.and_eq_true, sgnS_iff ds chain c k, Bool.or_eq_true, decide_eq_true_eq]
    constructor
    · rintro ⟨h1, h2⟩ i hi
      by_cases e : i = k
      · subst e; exact h2
      · exact h1 i (by omega)
    · exact fun h => ⟨fun i hi => h i (by omega), h k (by omega)⟩
theorem at_mem {l : List SealD} {P : SealD → Prop} : (∀ i, i < l.length → P (sealAt l i)) ↔ ∀ s ∈ l, P s := by
  constructor
  · intro h s hs
    obtain ⟨i, hi, rfl⟩ := List.getElem_of_mem hs
    have := h i hi
    rwa [sealAt_get hi] at this
  · intro h i hi
    rw [sealAt_get hi]
    exact h _ (List.getElem_mem hi)
theorem okS_iff (ds : List ValD) (chain : ByteArray) (c : CommitD) : (isBlk c && riseS c.seals c.seals.length && sgnS ds chain c c.seals.length) = true ↔ isBlk c = true ∧ RiseP c.seals ∧ SgnP ds chain c := by
  rw [Bool.and_eq_true, Bool.and_eq_true, rise_pw, sgnS_iff, at_mem (P := fun s => powL s.key ds = 0 ∨ signedB (stand chain c s) = true), and_assoc]; rfl
theorem sum_all (ds : List ValD) (c : CommitD) : sumS ds c c.seals.length = powS ds c.seals := by
  rw [sumS_sum ds c _ (Nat.le_refl _), List.take_length]
theorem shared_yes {ds : List ValD} {chain : ByteArray} {c : CommitD} (hr : rightL ds = true) (h1 : isBlk c = true) (h2 : RiseP c.seals) (h3 : SgnP ds chain c) : sharedL ds chain c = (powS ds c.seals, 0) := by
  unfold sharedL
  rw [if_neg (by simp [hr]), if_neg (by rw [(okS_iff ds chain c).2 ⟨h1, h2, h3⟩]; simp), sum_all]
/-- a commit that is shared without an error -/
theorem shared_ok {ds : List ValD} {chain : ByteArray} {c : CommitD} (h : (sharedL ds chain c).2 = 0) : rightL ds = true ∧ isBlk c = true ∧ RiseP c.seals ∧ SgnP ds chain c ∧ (sharedL ds chain c).1 = powS ds c.seals := by
  unfold sharedL at h ⊢
  by_cases hr : rightL ds = false
  · rw [if_pos hr] at h; exact absurd h (by decide)
  rw [if_neg hr] at h ⊢
  by_cases hok : (isBlk c && riseS c.seals c.seals.length && sgnS ds chain c c.seals.length) = false
  · rw [if_pos hok] at h; exact absurd h (by decide)
  rw [if_neg hok]
  obtain ⟨a, b, d⟩ := (okS_iff ds chain c).1 (by rw [Bool.not_eq_false] at hok; exact hok)
  exact ⟨by simpa using hr, a, b, d, sum_all ds c⟩
theorem check_iff {ds : List ValD} {chain : ByteArray} {c : CommitD} : checkL ds chain c = 0 ↔ rightL ds = true ∧ isBlk c = true ∧ RiseP c.seals ∧ SgnP ds chain c ∧ twoB (powS ds c.seals) (totalL ds) = true ∧ ∀ s ∈ c.seals, powL s.key ds ≠ 0 := by
  unfold checkL
  by_cases hr : rightL ds = false
  · rw [if_pos hr]; simp [hr]
  rw [if_neg hr]
  by_cases hok : (isBlk c && riseS c.seals c.seals.length && sgnS ds chain c c.seals.length) = false
  · rw [if_pos hok]
    constructor
    · intro h; exact absurd h (by decide)
    · rintro ⟨_, a, b, d, _⟩
      rw [(okS_iff ds chain c).2 ⟨a, b, d⟩] at hok
      exact absurd hok (by decide)
  rw [if_neg hok, sum_all]
  obtain ⟨a, b, d⟩ := (okS_iff ds chain c).1 (by rw [Bool.not_eq_false] at hok; exact hok)
  by_cases ht : (twoB (powS ds c.seals) (totalL ds) && allS ds c c.seals.length) = true
  · rw [if_pos ht]
    rw [Bool.and_eq_true, allS_iff, at_mem (P := fun s => powL s.key ds ≠ 0)] at ht
    exact ⟨fun _ => ⟨by simpa using hr, a, b, d, ht.1, ht.2⟩, fun _ => rfl⟩
  · rw [if_neg ht]
    constructor
    · intro h; exact absurd h (by decide)
    · rintro ⟨_, _, _, _, e, f⟩
      refine absurd ?_ ht
      rw [Bool.and_eq_true, allS_iff, at_mem (P := fun s => powL s.key ds ≠ 0)]
      exact ⟨e, f⟩
theorem check_two {ds : List ValD} {chain : ByteArray} {c : CommitD} (hr : rightL ds = true) : checkL ds chain c = 0 ∨ checkL ds chain c = 158 := by
  unfold checkL
  rw [if_neg (by simp [hr])]
  split
  · exact .inr rfl
  · split
    · exact .inl rfl
    · exact .inr rfl

theorem pows_perm {ds : List ValD} {l m : List VoteD} (h : l.Perm m) : powsL ds l = powsL ds m := perm_sum (h.map _)
theorem forX_perm {l m : List VoteD} (h : l.Perm m) (x : List UInt8) : (forX l x).Perm (forX m x) := h.filter _
theorem powS_seals (ds : List ValD) (l : List VoteD) (x : List UInt8) : powS ds (sealsOf l x) = powsL ds (forX l x) := by
  simp [powS, sealsOf, powsL, VoteD.seal, List.map_map, Function.comp_def]
/-- what a tally commits -/
structure Made (T : TD) (c : CommitD) : Prop where
  blk : isBlk c = true
  rise : RiseP c.seals
  pow : ∀ s ∈ c.seals, powL s.key T.set ≠ 0
  sgn : ∀ s ∈ c.seals, signedB (stand T.of.chain c s) = true
  sum : powS T.set c.seals = T.pow c.block
  two : twoB (T.pow c.block) (totalL T.set) = true
  some : 0 < c.seals.length
theorem fits_eq {T : TD} (hT : T.ok) {u : VoteD} (hu : u.wf) (h : T.fits u = true) : u = T.of.like u := (VoteD.eq_iff _ _ hu (like_wf hT.of hu)).1 h
theorem made {T0 T : TD} {l : List VoteD} (hT : T.ok) (i : InvO T0 T l) {c : CommitD} (hc : T.commit = some c) : Made T c := by
  unfold TD.commit at hc
  cases hw : T.win with
  | none => rw [hw] at hc; cases hc
  | some x =>
    rw [hw] at hc
    dsimp only at hc
    by_cases hz : VEq (Lib.byteCells x) ZH = true
    · rw [if_pos hz] at hc; cases hc
    rw [if_neg hz] at hc
    by_cases ht : T.of.type = 2
    · rw [if_pos ht] at hc
      injection hc with hc
      subst hc
      have hm : ∀ s ∈ sealsOf T.votes x, ∃ u ∈ T.cnt, u.block = x ∧ s = u.seal := by
        intro s hs
        obtain ⟨u, hu, rfl⟩ := List.mem_map.1 hs
        obtain ⟨h1, h2⟩ := List.mem_filter.1 hu
        exact ⟨u, (votes_mem T u).1 h1, by simpa using h2, rfl⟩
      have htw : twoB (T.pow x) (totalL T.set) = true := by rw [win_is hT x, hw]; simp
      have hsum : powS T.set (sealsOf T.votes x) = T.pow x := by
        rw [powS_seals]
        exact pows_perm (forX_perm (votes_perm T) x)
      refine ⟨?_, ?_, ?_, ?_, hsum, htw, ?_⟩
      · unfold isBlk
        have : ¬ x = List.replicate 32 0 := fun e => hz (by unfold ZH; rw [VEq.bytes, e]; simp)
        have e : ((x == List.replicate 32 (0 : UInt8)) = false) := by rw [beq_eq_false_iff_ne]; exact this
        show (!(x == List.replicate 32 0)) = true
        rw [e]; rfl
      · show ((sealsOf T.votes x).map (·.key)).Pairwise _
        unfold sealsOf
        rw [List.map_map]
        refine List.Pairwise.map _ (fun a b h => h) (List.Pairwise.sublist List.filter_sublist (votes_lt hT))
      · intro s hs
        obtain ⟨u, hu, _, rfl⟩ := hm s hs
        exact hT.pos u hu
      · intro s hs
        obtain ⟨u, hu, hb, rfl⟩ := hm s hs
        obtain ⟨h1, h2, h3⟩ := (okV_of i.set i.of u).2 (i.from_ u hu).1
        have e := fits_eq hT (hT.cnt u hu) h1
        have : stand T.of.chain ⟨T.of.height, T.of.round, x, sealsOf T.votes x⟩ u.seal = u := by
          conv => rhs; rw [e]
          unfold stand standB VoteD.put VoteD.like VoteD.seal
          rw [hb, ← ht]
        rw [this]; exact h3
      · show 0 < (sealsOf T.votes x).length
        rw [Nat.pos_iff_ne_zero]
        intro h0
        have h1 : sealsOf T.votes x = [] := List.eq_nil_of_length_eq_zero h0
        rw [h1] at hsum
        have : T.pow x = 0 := hsum.symm
        rw [this] at htw
        have hp := powB_true (n := totalL T.set) (by unfold twoB at htw; simp only [Bool.and_eq_true] at htw; exact htw.2.1)
        unfold twoB at htw
        simp only [Bool.and_eq_true, decide_eq_true_eq] at htw
        omega
    · rw [if_neg ht] at hc; cases hc
theorem Made.shared {T : TD} {c : CommitD} (h : Made T c) (hT : T.ok) : sharedL T.set T.of.chain c = (T.pow c.block, 0) := by
  rw [shared_yes hT.right h.blk h.rise (fun s hs => .inr (h.sgn s hs)), h.sum]
theorem Made.check {T : TD} {c : CommitD} (h : Made T c) (hT : T.ok) : checkL T.set T.of.chain c = 0 :=
  check_iff.2 ⟨hT.right, h.blk, h.rise, fun s hs => .inr (h.sgn s hs), by rw [h.sum]; exact h.two, h.pow⟩
def CommitD.less (c : CommitD) (i : Nat) : CommitD := { c with seals := c.seals.take i ++ c.seals.drop (i + 1) }
theorem less_sub (c : CommitD) (i : Nat) : (c.less i).seals.Sublist c.seals := by
  unfold CommitD.less
  have := (List.Sublist.refl (c.seals.take i)).append (List.drop_sublist_drop_left c.seals (show i ≤ i + 1 by omega))
  rwa [List.take_append_drop] at this
theorem less_pow (ds : List ValD) (c : CommitD) (i : Nat) (hi : i < c.seals.length) : powS ds (c.less i).seals = powS ds c.seals - powL c.seals[i].key ds := by
  have h : c.seals = c.seals.take i ++ c.seals[i] :: c.seals.drop (i + 1) := by
    rw [← List.drop_eq_getElem_cons hi, List.take_append_drop]
  obtain ⟨A, hA⟩ : ∃ A, c.seals.take i = A := ⟨_, rfl⟩
  obtain ⟨D, hD⟩ : ∃ D, c.seals.drop (i + 1) = D := ⟨_, rfl⟩
  obtain ⟨x, hx⟩ : ∃ x, c.seals[i] = x := ⟨_, rfl⟩
  rw [hA, hD, hx] at h
  unfold CommitD.less
  dsimp only
  rw [hA, hD, hx, h]
  simp only [powS, List.map_append, List.map_cons, List.sum_append, List.sum_cons]
  omega
theorem Made.less {T : TD} {c : CommitD} (h : Made T c) (hT : T.ok) (i : Nat) (hi : i < c.seals.length) : checkL T.set T.of.chain (c.less i) = 0 ↔ twoB (T.pow c.block - powL c.seals[i].key T.set) (totalL T.set) = true := by
  have hs := less_sub c i
  rw [check_iff, less_pow _ _ _ hi, h.sum]
  constructor
  · exact fun q => q.2.2.2.2.1
  · intro q
    exact ⟨hT.right, h.blk, List.Pairwise.sublist (hs.map _) h.rise, fun s hm => .inr (h.sgn s (hs.mem hm)), q, fun s hm => h.pow s (hs.mem hm)⟩
theorem none_check (ds : List ValD) (chain : ByteArray) (c : CommitD) (hr : rightL ds = true) (hz : c.block = List.replicate 32 0) : checkL ds chain c = 158 := by
  rcases check_two (c := c) (chain := chain) hr with h | h
  · have := (check_iff.1 h).2.1
    unfold isBlk at this
    rw [hz] at this
    simp at this
  · exact h
theorem twice_check (ds : List ValD) (chain : ByteArray) (c : CommitD) (hr : rightL ds = true) (s : SealD) (hs : s ∈ c.seals) : checkL ds chain { c with seals := c.seals ++ [s] } = 158 := by
  rcases check_two (c := { c with seals := c.seals ++ [s] }) (chain := chain) hr with h | h
  · have := (check_iff.1 h).2.2.1
    unfold RiseP at this
    rw [List.map_append, List.pairwise_append] at this
    have := this.2.2 s.key (List.mem_map_of_mem hs) s.key (by simp)
    omega
  · exact h
open Go.Maps (Keyed)

section
variable {P : Program} {o : Oper} {a : Act} {w : World} {K : Act → World → Prop} {Q : Exit → Act → World → Prop}
theorem run_empty (t e : TypeId) (ht : P.underlying t = some (.slice e)) (hz : (P.info? e).isSome = true) :
    (Instr.buildSlice t 0 #[]).run P w = .ok (.slice (some ⟨w.heap.size, 0, none⟩) 0 0) (w.alloc (.cells #[] e)) := by
  obtain ⟨i, hq⟩ := Option.isSome_iff_exists.1 hz
  have hsz : (sizeOf e).run P w = .ok i.size w := by simp [sizeOf, typeInfo, hq, Sem.run_bind]
  unfold Instr.buildSlice
  simp only [Sem.run_bind, run_underlying ht, Result.andThen_ok, hsz, gt_iff_lt]
  rw [if_neg (by omega), if_pos (by omega)]
  simp only [Sem.run_bind, Result.andThen_ok, Sem.run_pure, Nat.zero_mul]
  have e1 : (Array.map (fun x => (#[] : Array Value)[x % (#[] : Array Value).size]!) (Array.range 0)) = #[] := by simp
  rw [e1]
  unfold Instr.fill
  rfl
theorem wp_empty (t e : TypeId) (ho : o.op = .buildSlice t 0 #[]) (ht : P.underlying t = some (.slice e)) (hz : (P.info? e).isSome = true)
    (h : ∀ w2, Blk w2 w.heap.size [] e → w.grownBy w2 none → w2.heap.size = w.heap.size + 1 → K (a.put o.dst (.slice (some ⟨w.heap.size, 0, none⟩) 0 0)) w2) : o.wp P a w K Q := by
  have hrun := run_empty (w := w) t e ht hz
  unfold Oper.wp execOp
  simp only [ho, List.map_toArray, List.map_nil, Sem.run_bind, Sem.run_pure, Result.andThen_ok, hrun]
  exact h _ (Blk.new w [] e) (World.grownBy_alloc w _ none) (by simp)
end
theorem wp_one {P : Program} {o : Oper} {a : Act} {w : World} {K : Act → World → Prop} {Q : Exit → Act → World → Prop} (t e : TypeId) (x : Operand) (ho : o.op = .buildSlice t 1 #[(0, x)]) (ht : P.underlying t = some (.slice e)) (Z xs : List Value) (k : Nat) (hk : 0 < k) (hk2 : k ≤ 1000) (hz : (P.info? e).map (fun i => (i.zero.map (fun v => v.cells), i.size)) = some (some Z.toArray, k)) (hZ : Z.length = k) (hx : xs.length = k)
    (hxe : a.eval x = .agg xs.toArray)
    (h : ∀ w2, Blk w2 w.heap.size xs e → w.grownBy w2 none → w2.heap.size = w.heap.size + 1 → K (a.put o.dst (.slice (some ⟨w.heap.size, 0, none⟩) 1 1)) w2) : o.wp P a w K Q := by
  have hrun := run_one (w := w) t e ht Z xs k hk hk2 hz hZ hx
  unfold Oper.wp execOp
  simp only [ho, hxe, List.map_toArray, List.map_cons, List.map_nil, Sem.run_bind, Sem.run_pure, Result.andThen_ok, hrun]
  exact h _ (Blk.new w xs e) (World.grownBy_alloc w _ none) (by simp)
theorem key_small {ds : List ValD} (h : rightL ds = true) (key : Int) : 0 ≤ powL key ds ∧ powL key ds ≤ 1125899906842624 := by
  have hd := right_each h
  clear h
  induction ds with
  | nil => simp [powL]
  | cons d l ih =>
    unfold powL
    have := hd d (by simp)
    split
    · omega
    · exact ih fun x hx => hd x (by simp [hx])
theorem seal_own {w : World} {g : Nat} {x : SealD} (h : Blk w g x.cells 63) (c p : Nat) (hp : p = 0) : Src Tryd.prog 3 52 (.slice (some ⟨g, p, none⟩) 1 c) 1 (sealCells [x]) w := by
  subst hp
  refine Src.ofSlice _ Tryd.underlying52 _ _ _ _ rfl (fun j u hj => ?_) (by intro u hu; simp [sealCells, SealD.cells] at hu; rcases hu with rfl | rfl | rfl <;> rfl)
  have e2 : (⟨g, 0, none⟩ : Addr).add j = ⟨g, 0 + j, none⟩ := by unfold Addr.add; split <;> simp_all
  rw [e2]; exact h.row j u (by simpa [sealCells] using hj)
theorem ownsRow_empty {w : World} {B g size : Nat} {e : TypeId} (h : Blk w g [] e) (hB : B ≤ g) : w.ownsRow B e size (.slice (some ⟨g, 0, none⟩) 0 0) 0 [] :=
  ⟨by simp, .inr ⟨g, 0, #[], rfl, hB, h, Nat.le_refl _, Nat.zero_le _, by simp, by simp⟩⟩
theorem own_one {w : World} {B k n : Nat} {e : TypeId} {v : Value} {cs : List Value} (h : w.ownsRow B e k v n cs) : v.oneCell' = true := by
  obtain ⟨a, c, rfl⟩ := own_sl h; rfl
theorem sealCells_part (l : List SealD) (lo m : Nat) : ((sealCells l).drop (lo * 3)).take (m * 3) = sealCells ((l.drop lo).take m) := by
  have h1 : ∀ (lo : Nat) (l : List SealD), (sealCells l).drop (lo * 3) = sealCells (l.drop lo) := by
    intro lo
    induction lo with
    | zero => intro l; simp
    | succ k ih =>
      intro l
      cases l with
      | nil => simp [sealCells]
      | cons d l =>
        have : sealCells (d :: l) = d.cells ++ sealCells l := rfl
        rw [this, show (k + 1) * 3 = 3 + k * 3 by omega, ← List.drop_drop, List.drop_left' d.cells_length, ih l]; rfl
  have h2 : ∀ (m : Nat) (l : List SealD), (sealCells l).take (m * 3) = sealCells (l.take m) := by
    intro m
    induction m with
    | zero => intro l; simp [sealCells]
    | succ k ih =>
      intro l
      cases l with
      | nil => simp [sealCells]
      | cons d l =>
        have : sealCells (d :: l) = d.cells ++ sealCells l := rfl
        rw [this, List.take_append, show (k + 1) * 3 - d.cells.length = k * 3 by rw [d.cells_length]; omega, ih l, List.take_of_length_le (by rw [d.cells_length]; omega)]; rfl
  rw [h1, h2]
theorem sealCells_one (l : List SealD) : ∀ u ∈ sealCells l, u.oneCell' = true := by
  intro u hu
  obtain ⟨d, _, hu⟩ := List.mem_flatMap.1 hu
  simp only [SealD.cells, List.mem_cons, List.not_mem_nil, or_false] at hu
  rcases hu with rfl | rfl | rfl <;> rfl
theorem sealCells_length (l : List SealD) : (sealCells l).length = l.length * 3 := flat_length _ 3 l fun d _ => d.cells_length
/-- a part of a row of seals, to be appended -/
theorem src_seals {w : World} {g o : Nat} {l : List SealD} (hrow : RowAt w g o (sealCells l)) (lo m : Nat) (h : lo + m ≤ l.length) (c : Nat) (p : Nat) (hp : p = o + lo * 3) :
    Src Tryd.prog 3 52 (.slice (some ⟨g, p, none⟩) m c) m (sealCells ((l.drop lo).take m)) w := by
  subst hp
  have hr := hrow.part (lo * 3) (m * 3)
  rw [sealCells_part] at hr
  refine Src.ofSlice _ Tryd.underlying52 _ _ _ _ (by rw [sealCells_length, List.length_take, List.length_drop, Nat.min_eq_left (by omega)]) (fun j u hj => ?_) (sealCells_one _)
  have e2 : (⟨g, o + lo * 3, none⟩ : Addr).add j = ⟨g, o + lo * 3 + j, none⟩ := by unfold Addr.add; split <;> simp_all
  rw [e2]; exact hr j u hj
/-- .. whose place may be the row's own, if nothing is left -/
theorem src_seals' {w : World} {g o : Nat} {l : List SealD} (hrow : RowAt w g o (sealCells l)) (lo m : Nat) (h : lo + m = l.length) (c : Nat) (p : Nat) (hp : p = o + lo * 3 ∨ m = 0) :
    Src Tryd.prog 3 52 (.slice (some ⟨g, p, none⟩) m c) m (sealCells (l.drop lo)) w := by
  rcases hp with hp | rfl
  · have := src_seals hrow lo m (by omega) c p hp
    rwa [List.take_of_length_le (by rw [List.length_drop]; omega)] at this
  · have e : l.drop lo = [] := List.drop_eq_nil_of_le (by omega)
    rw [e]
    exact Src.ofSlice _ Tryd.underlying52 _ _ _ _ (by simp [sealCells]) (fun j u hj => by simp [sealCells] at hj) (by simp [sealCells])

section
variable {P : Program} {ops : Array Oper} {S : World → Prop} {o : Oper} {a : Act}
theorem yieldsIf_slice_to (hgd : Region.wanted o (yielded ops a.tmps) = true) (t e : TypeId) (x y : Operand) (ho : o.op = .slice t x none (some y) none) (ht : P.underlying t = some (.slice e)) (hz : (P.info? e).isSome = true) {g p n c m : Nat}
    (hx : a.eval x = .slice (some ⟨g, p, none⟩) n c) (hy : a.eval y = .int .i64 (m : Int)) (hm : m ≤ c) : YieldsIf P ops S o (.slice (some ⟨g, p, none⟩) m c) a := by
  obtain ⟨i, hq⟩ := Option.isSome_iff_exists.1 hz
  refine .inl ⟨hgd, fun w _ => ?_⟩
  have hsz : (sizeOf e).run P w = .ok i.size w := by simp [sizeOf, typeInfo, hq, Sem.run_bind]
  unfold execOp
  simp [ho, hx, hy, Instr.sliceAt, Instr.slice, Instr.sliceBounds, Instr.sliceBound, asIntOf, Sem.run_bind, run_underlying ht, hsz, hm, Addr.add_lit]
theorem yieldsIf_slice_from (hgd : Region.wanted o (yielded ops a.tmps) = true) (t e : TypeId) (x y : Operand) (ho : o.op = .slice t x (some y) none none) (ht : P.underlying t = some (.slice e)) {size : Nat} (hz : (P.info? e).map (·.size) = some size) {g p n c m q : Nat}
    (hx : a.eval x = .slice (some ⟨g, p, none⟩) n c) (hy : a.eval y = .int .i64 (m : Int)) (hm : m ≤ n) (hq : q = if c = m then p else p + m * size) : YieldsIf P ops S o (.slice (some ⟨g, q, none⟩) (n - m) (c - m)) a := by
  obtain ⟨i, hi, hs⟩ := Option.map_eq_some_iff.1 hz
  refine .inl ⟨hgd, fun w _ => ?_⟩
  have hsz : (sizeOf e).run P w = .ok size w := by simp [sizeOf, typeInfo, hi, hs, Sem.run_bind]
  subst hq
  unfold execOp
  by_cases hc : c = m
  · subst hc
    simp [ho, hx, hy, Instr.sliceAt, Instr.slice, Instr.sliceBounds, Instr.sliceBound, asIntOf, Sem.run_bind, run_underlying ht, hsz, hm]
  · simp [ho, hx, hy, Instr.sliceAt, Instr.slice, Instr.sliceBounds, Instr.sliceBound, asIntOf, Sem.run_bind, run_underlying ht, hsz, hm, hc, Addr.add_lit]
end

set_option maxHeartbeats 16000000 in
theorem TallyCommits_any (sv : Value) (ds : List ValD) (chain : ByteArray) (h r t : Int) (lv : Value) (l : List VoteD) (w : World) (hr : RdS w.heap.size w sv ds.length 2 (setCells ds)) (hch : chain.size ≤ maxLen) (hh : i64R h) (hrr : i64R r)
    (hl : RdS w.heap.size w lv l.length 39 (voteCells l)) (hw : ∀ v ∈ l, v.wf) (hR : RowAt w 0 0 (wCells rootsL)) :
    Calls Tryd.prog 8 #[.agg #[sv, .string chain, .int .i64 h, .int .i64 r, .int .i64 t], lv] w fun e w' => e = .returned (.bool true) ∧ Below w.heap.size w w' := by
  have HRD := Lib.hid hr; have HR := Lib.hid hR; have HLw := Lib.hid hw; have HLR := Lib.hid hl; have HCh := Lib.hid hch
  have HFw := Lib.hid (forV_wf chain h r 2 hch hh hrr (by unfold i64R; decide))
  obtain ⟨va, vc, rfl⟩ := hr.shape
  have hlen := hr.le; have hlen2 := hl.le
  obtain ⟨la, lc, rfl⟩ := hl.shape
  unfold maxLen at hlen hlen2
  have HM := Lib.hid hlen; have HM2 := Lib.hid hlen2
  clear hr hR hw hl hch hh hrr hlen hlen2
  go_enter Tryd.func8, Tryd.ntmps8
  go_wp2_with (first | (refine wpList_box_as rfl 40 _ rfl [.slice va ds.length vc, .string chain, .int .i64 h, .int .i64 r, .int .i64 t] rfl ?_))
  intro w1 b1 g1 s1
  obtain ⟨b, hb⟩ : ∃ b, w.heap.size = b := ⟨_, rfl⟩
  have HB := Lib.hid hb
  rw [hb] at b1 s1 ⊢
  have B := Lib.hid b1; have G := Lib.hid g1; have S1 := Lib.hid s1
  clear b1 g1 s1 hb
  have c0 := B.out.row 0 _ rfl; have c1 := B.out.row 1 _ rfl; have c2 := B.out.row 2 _ rfl; have c3 := B.out.row 3 _ rfl
  rw [Nat.zero_add] at c0 c1 c2 c3
  have hl63 := HM.out
  cases h1 : decide ((30 : Int) < (ds.length : Int)) with
  | true =>
    go_wp2_with fail
    refine (alive9_ok w1 (HR.out.grown G.out (by simp))).mono ?_
    rintro e w2 ⟨rfl, g2⟩
    replace G := Lib.hid (Lib.grownBy_trans G.out g2)
    clear g2
    go_wp2_with fail
    go_ret
    exact ⟨rfl, below_g G.out⟩
  | false =>
    cases hri : rightL ds with
    | false =>
      have CN := Lib.hid (New_no (.slice va ds.length vc) ds chain h r 2 w1 (HRD.out.grown G.out) hri)
      clear hri
      go_wp2_with fail
      refine CN.out.mono ?_
      rintro e w2 ⟨rfl, g2⟩
      replace G := Lib.hid (Lib.grownBy_trans G.out g2)
      clear g2 CN
      go_wp2_with fail
      refine (alive9_ok w2 (HR.out.grown G.out (by simp))).mono ?_
      rintro e w3 ⟨rfl, g3⟩
      replace G := Lib.hid (Lib.grownBy_trans G.out g3)
      clear g3
      go_wp2_with fail
      go_ret
      exact ⟨rfl, below_g G.out⟩
    | true =>
      cases hfo : okVote (forV chain h r 2) with
      | false =>
        have CN := Lib.hid (New_form (.slice va ds.length vc) ds chain h r 2 w1 (HRD.out.grown G.out) hri HFw.out hfo)
        clear hri hfo
        go_wp2_with fail
        refine CN.out.mono ?_
        rintro e w2 ⟨rfl, g2⟩
        replace G := Lib.hid (Lib.grownBy_trans G.out g2)
        clear g2 CN
        go_wp2_with fail
        refine (alive9_ok w2 (HR.out.grown G.out (by simp))).mono ?_
        rintro e w3 ⟨rfl, g3⟩
        replace G := Lib.hid (Lib.grownBy_trans G.out g3)
        clear g3
        go_wp2_with fail
        go_ret
        exact ⟨rfl, below_g G.out⟩
      | true =>
        have CN := Lib.hid (NewT (.slice va ds.length vc) ds chain h r 2 w1 (HRD.out.grown G.out) hri HFw.out hfo)
        have HOK := Lib.hid (new_ok hri HFw.out)
        have HRi := Lib.hid hri
        have htt : (sumL ds).getD (-1) = totalL ds := by
          have h := hri
          unfold rightL at h
          simp only [Bool.and_eq_true] at h
          obtain ⟨m, hm⟩ := Option.isSome_iff_exists.1 h.1.1.1
          unfold totalL; rw [if_pos hri, hm]; rfl
        have HTT := Lib.hid htt
        obtain ⟨T0, hT0⟩ : ∃ T, TD.new ds (forV chain h r 2) = T := ⟨_, rfl⟩
        have HC0 := Lib.hid (show T0.cnt = [] ∧ T0.both = [] ∧ T0.set = ds ∧ T0.of.chain = chain by rw [← hT0]; exact ⟨rfl, rfl, rfl, rfl⟩)
        rw [hT0] at CN HOK
        clear hri hfo htt hT0
        go_wp2_with fail
        refine CN.out.mono ?_
        rintro e w2 ⟨p, bm, bs, sv', rfl, g2, t2, l1, l2, l3, _⟩
        have HLP := Lib.hid (show b < p ∧ b < bm ∧ b < bs from by have := S1.out; exact ⟨by omega, by omega, by omega⟩)
        replace B := Lib.hid (B.out.grown g2 (by simp)); replace G := Lib.hid (Lib.grownBy_trans G.out g2); have TL := Lib.hid t2
        clear g2 t2 l1 l2 l3 CN S1 c0 c1 c2 c3 h1
        have hm2 := HM2.out
        go_wp2_with fail
        go_loopw [7] (fun i wr => ∃ (k : Nat) (tv : Value), k ≤ l.length ∧ k ≤ 30 ∧ i = .int .i64 k ∧ w.grownBy wr none ∧ TlRep wr p bm bs sv' tv (addAll T0 (l.take k)) ∧ Blk wr b [.slice va ds.length vc, .string chain, .int .i64 h, .int .i64 r, .int .i64 t] 40 ∧ (∀ g, tv.ownBlock = some g → b < g)) (fun i _ => l.length - (intOf i).toNat)
        case atStart => exact ⟨0, .slice none 0 0, Nat.zero_le _, by omega, rfl, G.out, TL.out, B.out, fun g hg => by simp [Value.ownBlock] at hg⟩
        case round =>
          obtain ⟨k, tv, hk, hk30, rfl, hg, htl, hc, htv⟩ := hrel
          replace G := Lib.hid hg; replace TL := Lib.hid htl; replace B := Lib.hid hc; have Htv := Lib.hid htv
          have HOKk := Lib.hid (addAll_ok HOK.out (l.take k) (fun v hv => HLw.out v (List.mem_of_mem_take hv)))
          have HSz := Lib.hid (addAll_size T0 (l.take k))
          have HSet := Lib.hid (addAll_set T0 (l.take k))
          have HInv := Lib.hid (invO_all HOK.out (l.take k) [] T0 HOK.out (invO_nil HC0.out.1) (fun v hv => HLw.out v (List.mem_of_mem_take hv)))
          have HSm := Lib.hid (show (addAll T0 (l.take k)).cnt.length ≤ 30 ∧ (addAll T0 (l.take k)).both.length ≤ 2000 from by
            have h1 := HSz.out
            rw [HC0.out.1, HC0.out.2.1, List.length_take] at h1
            simp at h1
            omega)
          clear hg htl hc htv HSz
          obtain ⟨q, hq⟩ : ∃ q, (decide (k < l.length) && decide (k < 30)) = q := ⟨_, rfl⟩
          have HQ := Lib.hid hq
          clear hq
          go_upto_region 7 with (fail)
          go_cut [53] from 46 to 61 (fun s53 w' => s53 = .bool q ∧ wr = w')
          case first =>
            by_cases hlt : k < l.length
            · by_cases hlt30 : k < 30
              · have HE := Lib.hid (show q = true by rw [← HQ.out, decide_eq_true hlt, decide_eq_true hlt30]; rfl)
                go_wp2_with fail
                go_meet
                case rel => exact ⟨by rw [HE.out, decide_eq_true (show (k : Int) < 30 by omega)], rfl⟩
              · have HE := Lib.hid (show q = false by rw [← HQ.out, decide_eq_false hlt30, Bool.and_false])
                go_wp2_with fail
                go_meet
                case rel => exact ⟨by rw [HE.out, decide_eq_false (show ¬ (k : Int) < 30 by omega)], rfl⟩
            · have HE := Lib.hid (show q = false by rw [← HQ.out, decide_eq_false hlt]; rfl)
              go_wp2_with fail
              go_meet
              case rel => exact ⟨by rw [HE.out], rfl⟩
          obtain ⟨hu, hwq⟩ := hcut
          subst hu hwq
          cases hqv : q with
          | true =>
            have hlt : k < l.length := by have := HQ.out; rw [hqv] at this; simp at this; exact this.1
            have hlt30 : k < 30 := by have := HQ.out; rw [hqv] at this; simp at this; exact this.2
            have hb1 := HLR.out
            obtain ⟨gl, ol, cl, hsl, hle, hcm, hgl, hrow⟩ := hb1.at_ (by omega)
            injection hsl with e1 _ e3
            subst e1 e3
            unfold maxLen at hcm
            have HROW := Lib.hid (fun W (g : w.grownBy W none) => RowAt.vote (hrow.grown g (by simp)) HLw.out)
            have Hvw := Lib.hid (HLw.out _ (List.getElem_mem hlt))
            have HTk := Lib.hid (addAll_take T0 l hlt)
            obtain ⟨v, hv⟩ : ∃ v, l[k] = v := ⟨_, rfl⟩
            have RV := HROW.out _ G.out k hlt
            rw [hv] at Hvw HTk RV
            have HRV := Lib.hid RV
            obtain ⟨T, hT⟩ : ∃ T, addAll T0 (l.take k) = T := ⟨_, rfl⟩
            rw [hT] at TL HOKk HSm HTk
            have CA := Lib.hid (Add_ok HOKk.out Hvw.out TL.out ⟨Nat.le_trans HSm.out.1 (by decide), HSm.out.2⟩ (HR.out.grown G.out (by simp)))
            rw [← HTk.out] at CA
            obtain ⟨code, hcode⟩ : ∃ x, (T.add v).2 = x := ⟨_, rfl⟩
            rw [hcode] at CA
            clear hv RV hT hrow hcode hb1 hgl hqv HQ HInv HSet
            go_wp2_with (refine wpList_load_part rfl 29 _ rfl gl (ol + k * 39) rfl v.cells _ HRV.out Tryd.underlying29 rfl (v.size Hvw.out) ?_)
            refine CA.out.mono ?_
            rintro e w5 ⟨rfl, k5, tv2, t5, htv5⟩
            have G5 := Lib.hid (Kp.grown (((Kp.still G.out).trans k5 (S := fun _ => False) (fun i hi hx => by
              have h1 := HLP.out; have h2 := HB.out
              rcases hx with hx | hx | hx | hx
              · omega
              · omega
              · omega
              · have := Htv.out i hx; omega))) (fun _ _ => id))
            have B5 := Lib.hid (B.out.kp k5 (fun hx => by
              have h1 := HLP.out
              rcases hx with hx | hx | hx | hx
              · omega
              · omega
              · omega
              · exact Nat.lt_irrefl _ (Htv.out _ hx)))
            have Tv5 := Lib.hid (show ∀ g, tv2.ownBlock = some g → b < g from fun g hx => by
              rcases htv5 with e | e
              · rw [e] at hx; exact Htv.out g hx
              · have h1 := e g hx; have h2 := B.out.lt; omega)
            have TL5 := Lib.hid t5
            clear k5 t5 htv5 CA HRV G TL B Htv
            go_wp2_with fail
            exact ⟨⟨k + 1, tv2, by omega, by omega, by go_num, G5.out, TL5.out, B5.out, Tv5.out⟩, by simp [intOf]; omega⟩
          | false =>
            clear HQ hqv
            obtain ⟨T, hT⟩ : ∃ T, addAll T0 (l.take k) = T := ⟨_, rfl⟩
            rw [hT] at TL HOKk HSm HSet HInv
            have HTs := Lib.hid (show T.set = ds ∧ T.of.chain = chain from ⟨by rw [HSet.out, HC0.out.2.2.1], by rw [HInv.out.of, HC0.out.2.2.2]⟩)
            clear hT HSet hm2
            have CU := Lib.hid (CommitU HOKk.out TL.out (Nat.le_trans HSm.out.1 (by decide)))
            obtain ⟨er, her⟩ : ∃ x, T.comE = x := ⟨_, rfl⟩
            have HEr := Lib.hid her
            rw [her] at CU
            clear her
            go_wp2_with fail
            refine CU.out.mono ?_
            rintro e w5 ⟨cs, rfl, ⟨sl, os, hcs⟩, g5⟩
            obtain ⟨sa, sc, hsl⟩ := own_sl os
            subst hsl
            have wfc := comC_wf HOKk.out
            have hnn := comC_len T
            obtain ⟨c, hcc⟩ : ∃ c, T.comC = c := ⟨_, rfl⟩
            have HCC := Lib.hid hcc
            rw [hcc] at os hcs wfc hnn
            have HWc := Lib.hid wfc
            have HNn := Lib.hid (show c.seals.length ≤ 30 from Nat.le_trans hnn HSm.out.1)
            replace B := Lib.hid (B.out.grown g5 (by simp)); replace G := Lib.hid (Lib.grownBy_trans G.out g5); replace TL := Lib.hid (TL.out.grown g5)
            have O := Lib.hid (rds_of_own os)
            have hcv : cs = commitV c.height c.round c.block (.slice sa c.seals.length sc) := hcs
            clear os g5 CU wfc hcs hcc
            subst hcv
            have HLn := Lib.hid (commitV_len c.height c.round c.block (.slice sa c.seals.length sc) HWc.out.block)
            obtain ⟨cv, hcv⟩ : ∃ x, commitV c.height c.round c.block (.slice sa c.seals.length sc) = x := ⟨_, rfl⟩
            have HCv := Lib.hid hcv
            have HRp := Lib.hid (show ∀ W, w5.grownBy W none → c.rep W.heap.size W cv from fun W g => ⟨_, (O.out.grown g).mono g.size, by rw [← hcv]; rfl⟩)
            have HOn := Lib.hid (show ∀ x ∈ cv, x.oneCell' = true from by rw [← hcv]; exact commitV_one _ _ _ _ rfl)
            rw [hcv] at HLn ⊢
            clear hcv
            go_wp2_with (refine wpList_alloc_as rfl 54 rfl ZCommit ZCommit_info ?_)
            intro w6 b6 g6 s6
            obtain ⟨y, hy⟩ : ∃ y, w5.heap.size = y := ⟨_, rfl⟩
            rw [hy] at b6 s6 ⊢
            have Y := Lib.hid b6; have GY := Lib.hid g6; have HY := Lib.hid (show b < y from by have := B.out.lt; omega); have HYs := Lib.hid hy
            clear b6 g6 s6 hy
            go_wp2_with (refine wpList_store_whole rfl 54 _ _ rfl y rfl cv ZCommit 54 rfl Y.out (by rw [HLn.out]; rfl) HOn.out (by rw [HLn.out]; exact sizeCommit) ?_)
            intro w7 g7 s7 b7
            have G57 := Lib.hid (grown_new GY.out g7 (by rw [HYs.out]; exact Nat.le_refl _))
            replace Y := Lib.hid b7; replace B := Lib.hid (B.out.grown G57.out (by simp)); replace TL := Lib.hid (TL.out.grown G57.out); replace G := Lib.hid (Lib.grownBy_trans G.out G57.out)
            clear b7 g7 s7 GY HYs
            cases hcm : T.commit with
            | none =>
              have her : er = 158 := by rw [← HEr.out]; unfold TD.comE; rw [hcm]; rfl
              subst her
              go_wp2_with fail
              refine (alive9_ok _ (HR.out.grown G.out (by simp))).mono ?_
              rintro e w8 ⟨rfl, g8⟩
              replace G := Lib.hid (Lib.grownBy_trans G.out g8)
              clear g8
              go_wp2_with fail
              go_ret
              exact ⟨rfl, below_g G.out⟩
            | some c' =>
              have her : er = 0 := by rw [← HEr.out]; unfold TD.comE; rw [hcm]; rfl
              subst her
              have hcc : c' = c := by have := HCC.out; unfold TD.comC at this; rw [hcm] at this; exact this
              subst hcc
              have MD := Lib.hid (made HOKk.out HInv.out hcm)
              have ES := Lib.hid (MD.out.shared HOKk.out)
              have EC := Lib.hid (MD.out.check HOKk.out)
              have EL := Lib.hid (fun i hi => MD.out.less HOKk.out i hi)
              have HPos := Lib.hid MD.out.some
              rw [HTs.out.1, HTs.out.2] at ES EC
              rw [HTs.out.1, HTs.out.2] at EL
              obtain ⟨n, hn⟩ : ∃ n, T.pow c'.block = n := ⟨_, rfl⟩
              have HPn := Lib.hid hn
              rw [hn] at ES
              rw [hn] at EL
              clear hn hcm
              have CS := Lib.hid (fun W (g : w7.grownBy W none) => Shared_ok (.slice va ds.length vc) ds chain c' cv W (HRD.out.grown (Lib.grownBy_trans G.out g)) HCh.out HWc.out (HRp.out W (Lib.grownBy_trans G57.out g)) (Nat.le_trans HNn.out (by decide)) (HR.out.grown (Lib.grownBy_trans G.out g) (by simp)) (Lib.grownBy_trans G.out g).size)
              have CC := Lib.hid (fun W (g : w7.grownBy W none) => Check_ok (.slice va ds.length vc) ds chain c' cv W (HRD.out.grown (Lib.grownBy_trans G.out g)) HCh.out HWc.out (HRp.out W (Lib.grownBy_trans G57.out g)) (Nat.le_trans HNn.out (by decide)) (HR.out.grown (Lib.grownBy_trans G.out g) (by simp)) (Lib.grownBy_trans G.out g).size)
              rw [ES.out] at CS
              rw [EC.out] at CC
              have c0 := B.out.row 0 _ rfl; have c1 := B.out.row 1 _ rfl
              rw [Nat.zero_add] at c0 c1
              go_wp2_with (first | (refine wpList_load_part rfl 54 _ rfl y 0 rfl cv _ Y.out.row Tryd.underlying54 rfl (by rw [HLn.out]; exact sizeCommit) ?_))
              refine (CS.out _ (gb_refl _)).mono ?_
              rintro e w8 ⟨rfl, g8⟩

              have HBl := Lib.hid HWc.out.block
              obtain ⟨m, hm⟩ : ∃ m, c'.seals.length = m := ⟨_, rfl⟩
              have HMm := Lib.hid hm
              obtain ⟨gs, os, sc', hsl, hle, hcm, hgl, hrow⟩ := O.out.at_ HPos.out
              injection hsl with e1 _ e3
              subst e1 e3
              unfold maxLen at hcm
              have HROW := Lib.hid hrow; have HLe := Lib.hid hle; have HCm := Lib.hid hcm
              have H34 := Lib.hid (show cv[34]? = some (.slice (some ⟨gs, os, none⟩) m sc) from by rw [← HCv.out, hm]; exact commitV_get _ _ _ _ HBl.out)
              have HB2 := Lib.hid (show (cv.drop 2).take 32 = Lib.byteCells c'.block from by rw [← HCv.out]; simp [commitV, Lib.byteCells_length, HBl.out])
              have hpos := HPos.out
              rw [hm] at hpos hle
              have HGs := Lib.hid (show gs < w7.heap.size by have := G57.out.size; omega)
              clear hm hgl hrow
              have G8 := Lib.hid g8; have Y8 := Lib.hid (Y.out.grown g8 (by simp)); have B8 := Lib.hid (B.out.grown g8 (by simp))
              clear g8 c0 c1 CS
              have c0 := B8.out.row 0 _ rfl; have c1 := B8.out.row 1 _ rfl
              rw [Nat.zero_add] at c0 c1
              go_wp2_with (first | (refine wpList_load_part rfl 54 _ rfl y 0 rfl cv _ Y8.out.row Tryd.underlying54 rfl (by rw [HLn.out]; exact sizeCommit) ?_))
              refine (CC.out _ G8.out).mono ?_
              rintro e w9 ⟨rfl, g9⟩
              have G9 := Lib.hid (Lib.grownBy_trans G8.out g9); have Y9 := Lib.hid (Y8.out.grown g9 (by simp))
              clear g9 G8 Y8 B8 c0 c1
              have CP := PowerT HOKk.out (TL.out.grown G9.out) c'.block HBl.out
              rw [HPn.out] at CP
              have CP := Lib.hid CP
              have rb := Lib.hid (show RowAt w9 y 2 (Lib.byteCells c'.block) from part_of Y9.out.row HB2.out)
              go_wp2_with (first | (refine wpList_load_part rfl 25 _ rfl y 2 rfl (Lib.byteCells c'.block) _ rb.out Tryd.underlying25 rfl (sizeH _ (by rw [Lib.byteCells_length, HBl.out])) ?_))
              refine CP.out.mono ?_
              rintro e w10 ⟨rfl, g10⟩
              have GA := Lib.hid (Lib.grownBy_trans G9.out g10)
              clear g10 G9 Y9 rb CP
              have K34 := Lib.hid (show ∀ W, w7.grownBy W none → W.cell? ⟨y, 34, none⟩ = some (.slice (some ⟨gs, os, none⟩) m sc) from fun W g => by
                have e1 := (Y.out.grown g (by simp)).row 34 _ H34.out
                rwa [Nat.zero_add] at e1)
              have KB := Lib.hid (show ∀ W, w7.grownBy W none → W.cell? ⟨b, 0, none⟩ = some (.slice va ds.length vc) ∧ W.cell? ⟨b, 1, none⟩ = some (.string chain) from fun W g => by
                have c0 := (B.out.grown g (by simp)).row 0 _ rfl; have c1 := (B.out.grown g (by simp)).row 1 _ rfl
                rw [Nat.zero_add] at c0 c1
                exact ⟨c0, c1⟩)
              have KY := Lib.hid (show ∀ W, w7.grownBy W none → Blk W y cv 54 from fun W g => Y.out.grown g (by simp))
              have KR := Lib.hid (show ∀ W, w7.grownBy W none → RowAt W gs os (sealCells c'.seals) from fun W g => HROW.out.grown (Lib.grownBy_trans G57.out g) (by simp))
              have c34 := K34.out _ GA.out
              go_wp2_with fail
              clear c34
              go_loopw [12, 13] (fun f i wr => ∃ k : Nat, k ≤ m ∧ f = .bool true ∧ i = .int .i64 k ∧ w7.grownBy wr none) (fun _ i _ => m - (intOf i).toNat)
              case atStart => exact ⟨0, Nat.zero_le _, rfl, rfl, GA.out⟩
              case round =>
                obtain ⟨k, hk, rfl, rfl, hg⟩ := hrel
                have Hg := Lib.hid hg
                clear hg GA
                have c34 := K34.out _ Hg.out
                by_cases hlt : k < m
                · have Yr := Lib.hid (KY.out _ Hg.out)
                  go_wp2_with (first | (refine wpList_load_part rfl 54 _ rfl y 0 rfl cv _ Yr.out.row Tryd.underlying54 rfl (by rw [HLn.out]; exact sizeCommit) ?_) | (refine wpList_alloc_as rfl 54 rfl ZCommit ZCommit_info ?_))
                  intro w11 b11 g11 s11
                  obtain ⟨z, hz⟩ : ∃ z, wr.heap.size = z := ⟨_, rfl⟩
                  rw [hz] at b11 s11 ⊢
                  have Z := Lib.hid b11; have GZ := Lib.hid g11; have HZs := Lib.hid hz
                  clear b11 g11 s11 hz
                  go_wp2_with (refine wpList_store_whole rfl 54 _ _ rfl z rfl cv ZCommit 54 rfl Z.out (by rw [HLn.out]; rfl) HOn.out (by rw [HLn.out]; exact sizeCommit) ?_)
                  intro w12 g12 s12 b12
                  have G12 := Lib.hid (Lib.grownBy_trans Hg.out (grown_new GZ.out g12 (by rw [HZs.out]; exact Nat.le_refl _)))
                  replace Z := Lib.hid b12
                  have HZ7 := Lib.hid (show w7.heap.size ≤ z by have := Hg.out.size; have := HZs.out; omega)
                  have HYz := Lib.hid (show y < z by have := Yr.out.lt; have := HZs.out; omega)
                  clear b12 g12 s12 GZ HZs Yr c34
                  have k0 := Lib.hid (dr_grown w12 1)
                  have KF := Lib.hid (show ∀ W, w12.grownBy W none → W.cell? ⟨y, 34, none⟩ = some (.slice (some ⟨gs, os, none⟩) m sc) from fun W g => K34.out _ (Lib.grownBy_trans G12.out g))
                  have KRr := Lib.hid (show ∀ W, w12.grownBy W none → RowAt W gs os (sealCells c'.seals) from fun W g => KR.out _ (Lib.grownBy_trans G12.out g))
                  obtain ⟨q2, hq2⟩ : ∃ q, q = if sc = k + 1 then os else os + (k + 1) * 3 := ⟨_, rfl⟩
                  have HQ2 := Lib.hid hq2
                  clear hq2
                  have EW1 := Lib.hid (show IntKind.i64.wrap ((k : Int) + 1) = ((k + 1 : Nat) : Int) by rw [IntWalk.i64_in _ (by have := HCm.out; have := HLe.out; omega)]; rfl)
                  go_upto_region 19 with (fail)
                  refine wp_region_held_drew (S := fun W => W.cell? ⟨y, 34, none⟩ = some (.slice (some ⟨gs, os, none⟩) m sc)) (by kernel_rfl) (KF.out _ k0.out) (fun hH => ?_)
                  have HM30 := Lib.hid (show m ≤ 30 by rw [← HMm.out]; exact HNn.out)
                  refine wpAnyH_take (i := 1) (v := (.pointer (some ⟨y, 34, none⟩))) rfl (by kernel_rfl) (by kernel_rfl) (by kernel_rfl) (fun _ _ _ h => h) (Or.inl ⟨by rfl, fun W hS => by go_simp⟩) hH ?_
                  simp only [Act.put, List.getElem_toArray, List.getElem_cons_succ, List.getElem_cons_zero, List.setIfInBounds_toArray, List.set_cons_zero, List.set_cons_succ]
                  refine wpAnyH_take (i := 2) (v := (.slice (some ⟨gs, os, none⟩) m sc)) rfl (by kernel_rfl) (by kernel_rfl) (by kernel_rfl) (fun _ _ _ h => h) (Or.inl ⟨by rfl, fun W hS => by have c := hS; go_simp⟩) hH ?_
                  simp only [Act.put, List.getElem_toArray, List.getElem_cons_succ, List.getElem_cons_zero, List.setIfInBounds_toArray, List.set_cons_zero, List.set_cons_succ]
                  refine wpAnyH_take (i := 3) (v := (.int .i64 k)) rfl (by kernel_rfl) (by kernel_rfl) (by kernel_rfl) (fun _ _ _ h => h) (Or.inl ⟨by rfl, fun W hS => by go_simp⟩) hH ?_
                  simp only [Act.put, List.getElem_toArray, List.getElem_cons_succ, List.getElem_cons_zero, List.setIfInBounds_toArray, List.set_cons_zero, List.set_cons_succ]
                  refine wpAnyH_take (i := 4) (v := (.slice (some ⟨gs, os, none⟩) k sc)) rfl (by kernel_rfl) (by kernel_rfl) (by kernel_rfl) (fun _ _ _ h => h) (yieldsIf_slice_to (by rfl) 52 63 _ _ rfl Tryd.underlying52 (by kernel_rfl) rfl rfl (by have := HLe.out; omega)) hH ?_
                  simp only [Act.put, List.getElem_toArray, List.getElem_cons_succ, List.getElem_cons_zero, List.setIfInBounds_toArray, List.set_cons_zero, List.set_cons_succ]
                  refine wpAnyH_take (i := 6) (v := (.pointer (some ⟨y, 34, none⟩))) rfl (by kernel_rfl) (by kernel_rfl) (by kernel_rfl) (fun _ _ _ h => h) (Or.inl ⟨by rfl, fun W hS => by go_simp⟩) hH ?_
                  simp only [Act.put, List.getElem_toArray, List.getElem_cons_succ, List.getElem_cons_zero, List.setIfInBounds_toArray, List.set_cons_zero, List.set_cons_succ]
                  refine wpAnyH_take (i := 7) (v := (.slice (some ⟨gs, os, none⟩) m sc)) rfl (by kernel_rfl) (by kernel_rfl) (by kernel_rfl) (fun _ _ _ h => h) (Or.inl ⟨by rfl, fun W hS => by have c := hS; go_simp⟩) hH ?_
                  simp only [Act.put, List.getElem_toArray, List.getElem_cons_succ, List.getElem_cons_zero, List.setIfInBounds_toArray, List.set_cons_zero, List.set_cons_succ]
                  refine wpAnyH_take (i := 8) (v := (.int .i64 k)) rfl (by kernel_rfl) (by kernel_rfl) (by kernel_rfl) (fun _ _ _ h => h) (Or.inl ⟨by rfl, fun W hS => by go_simp⟩) hH ?_
                  simp only [Act.put, List.getElem_toArray, List.getElem_cons_succ, List.getElem_cons_zero, List.setIfInBounds_toArray, List.set_cons_zero, List.set_cons_succ]
                  refine wpAnyH_take (i := 9) (v := (.int .i64 ((k + 1 : Nat) : Int))) rfl (by kernel_rfl) (by kernel_rfl) (by kernel_rfl) (fun _ _ _ h => h) (Or.inl ⟨by rfl, fun W hS => by have e1 := EW1.out; go_simp; try exact e1⟩) hH ?_
                  simp only [Act.put, List.getElem_toArray, List.getElem_cons_succ, List.getElem_cons_zero, List.setIfInBounds_toArray, List.set_cons_zero, List.set_cons_succ]
                  refine wpAnyH_take (i := 10) (v := (.slice (some ⟨gs, q2, none⟩) (m - (k + 1)) (sc - (k + 1)))) rfl (by kernel_rfl) (by kernel_rfl) (by kernel_rfl) (fun _ _ _ h => h) (yieldsIf_slice_from (by rfl) 52 63 _ _ rfl Tryd.underlying52 (by kernel_rfl) rfl rfl (by omega) HQ2.out) hH ?_
                  simp only [Act.put, List.getElem_toArray, List.getElem_cons_succ, List.getElem_cons_zero, List.setIfInBounds_toArray, List.set_cons_zero, List.set_cons_succ]
                  refine wpAnyH_ready (rs := [0]) (by kernel_rfl) (by simp) ?_
                  refine AllReadyH.cons rfl (fun K hK => ?_) AllReadyH.nil
                  refine step_wantedG (by rfl) (wp_empty 52 63 (by rfl) Tryd.underlying52 (by kernel_rfl) ?_)
                  intro u1 b1 g1 s1
                  have k1 := Lib.hid (Lib.grownBy_trans k0.out g1)
                  have E1 := Lib.hid (ownsRow_empty (B := w12.heap.size) (size := 3) b1 k0.out.size)
                  clear b1 g1 s1
                  simp only [Act.put, List.getElem_toArray, List.getElem_cons_succ, List.getElem_cons_zero, List.setIfInBounds_toArray, List.set_cons_zero, List.set_cons_succ]
                  refine hK.out _ _ (KF.out _ k1.out) (fun hH => ?_)
                  clear hK K
                  refine wpAnyH_ready (rs := [5]) (by kernel_rfl) (by simp) ?_
                  refine AllReadyH.cons rfl (fun K hK => ?_) AllReadyH.nil
                  refine step_wantedG (by rfl) (wp_append_srcs _ _ _ 52 52 (by rfl) w12.heap.size 63 (.agg #[.int .u64 0, .int .u64 0, .int .u64 0]) 3 24 Tryd.underlying52 seal_info rfl _ 0 [] (by rfl) E1.out _ k _ (by rfl) (src_seals (KRr.out _ k1.out) 0 k (by rw [HMm.out]; omega) sc os (by omega)) (by unfold maxLen; have := HM30.out; omega) (by have := HM30.out; omega) k1.out.size ?_)
                  intro v2 u2 o2 _ b2 _
                  have k2 := Lib.hid (below_grown ((below_of_grown k1.out).trans b2))
                  have E2 := Lib.hid o2
                  clear o2 b2 E1
                  simp only [Act.put, List.getElem_toArray, List.getElem_cons_succ, List.getElem_cons_zero, List.setIfInBounds_toArray, List.set_cons_zero, List.set_cons_succ]
                  refine hK.out _ _ (KF.out _ k2.out) (fun hH => ?_)
                  clear hK K
                  refine wpAnyH_ready (rs := [11]) (by kernel_rfl) (by simp) ?_
                  refine AllReadyH.cons rfl (fun K hK => ?_) AllReadyH.nil
                  refine step_wantedG (by rfl) (wp_append_srcs _ _ _ 52 52 (by rfl) w12.heap.size 63 (.agg #[.int .u64 0, .int .u64 0, .int .u64 0]) 3 24 Tryd.underlying52 seal_info rfl v2 _ _ (by rfl) E2.out _ (m - (k + 1)) _ (by rfl) (src_seals' (KRr.out _ k2.out) (k + 1) (m - (k + 1)) (by rw [HMm.out]; omega) (sc - (k + 1)) q2 (by have h9 := HQ2.out; by_cases hc : sc = k + 1; exact .inr (by have := HLe.out; omega); rw [if_neg hc] at h9; exact .inl h9)) (by unfold maxLen; have := HM30.out; omega) (by have := HM30.out; omega) k2.out.size ?_)
                  intro v3 u3 o3 _ b3 _
                  have k3 := Lib.hid (below_grown ((below_of_grown k2.out).trans b3))
                  have E3 := Lib.hid o3
                  clear o3 b3 E2
                  have Z3 := Lib.hid (Z.out.grown k3.out (by simp))
                  simp only [Act.put, List.getElem_toArray, List.getElem_cons_succ, List.getElem_cons_zero, List.setIfInBounds_toArray, List.set_cons_zero, List.set_cons_succ]
                  refine hK.out _ _ (KF.out _ k3.out) (fun hH => ?_)
                  clear hK K
                  refine wpAnyH_take (i := 12) (v := (.pointer (some ⟨z, 34, none⟩))) rfl (by kernel_rfl) (by kernel_rfl) (by kernel_rfl) (fun _ _ _ h => h) (Or.inl ⟨by rfl, fun W hS => by go_simp⟩) hH ?_
                  simp only [Act.put, List.getElem_toArray, List.getElem_cons_succ, List.getElem_cons_zero, List.setIfInBounds_toArray, List.set_cons_zero, List.set_cons_succ]
                  refine wpAnyH_ready (rs := [13]) (by kernel_rfl) (by simp) ?_
                  refine AllReadyH.cons rfl (fun K hK => ?_) AllReadyH.nil
                  refine step_wantedG (by rfl) (wp_store_cell 52 _ _ (by rfl) z 34 (by rfl) v3 (by rfl) (own_one E3.out) cv 54 Z3.out (by rw [HLn.out]; omega) (by kernel_rfl) ?_)
                  intro u4 g4 _ b4
                  have F4 := Lib.hid (show u4.cell? ⟨y, 34, none⟩ = some (.slice (some ⟨gs, os, none⟩) m sc) from by
                    have h1 := ((KY.out _ (Lib.grownBy_trans G12.out k3.out)).grown g4 (by have := HYz.out; simp; omega)).row 34 _ H34.out
                    rwa [Nat.zero_add] at h1)
                  simp only [Act.put, List.getElem_toArray, List.getElem_cons_succ, List.getElem_cons_zero, List.setIfInBounds_toArray, List.set_cons_zero, List.set_cons_succ]
                  refine hK.out _ _ (F4.out) (fun hH => ?_)
                  clear hK K
                  refine wpAnyH_done (by kernel_rfl) ?_ _
                  have G4 := Lib.hid (grown_new (Lib.grownBy_trans G12.out k3.out) g4 HZ7.out)
                  have HZ12 := Lib.hid (show z < w12.heap.size from Z.out.lt)
                  have EZ := Lib.hid (ownsRow.kp E3.out (Kp.of g4 (S := fun i => i = z) (fun i x _ => by cases x; rfl)) (fun g hg hx => by
                    have h1 := (E3.out.lt g hg).1; have h2 := HZ12.out; omega))
                  have Z4 := Lib.hid b4
                  have HWl := Lib.hid (show (c'.less k).wf from ⟨HWc.out.height, HWc.out.round, HWc.out.block, fun s hs => HWc.out.seals s ((less_sub c' k).mem hs)⟩)
                  have HNl := Lib.hid (show (c'.less k).seals.length ≤ 1000 from Nat.le_trans (less_sub c' k).length_le (Nat.le_trans HNn.out (by decide)))
                  have HSv := Lib.hid (show cv.set 34 v3 = commitV c'.height c'.round c'.block v3 from by rw [← HCv.out, commitV_set _ _ _ _ _ HBl.out])
                  have RL := Lib.hid (show ∀ W, u4.grownBy W none → (c'.less k).rep W.heap.size W (cv.set 34 v3) from fun W g => by
                    refine ⟨v3, ?_, HSv.out⟩
                    have h1 := rds_of_own EZ.out
                    have e1 : (c'.less k).seals.length = (0 + k + (m - (k + 1))) := by
                      unfold CommitD.less
                      rw [List.length_append, List.length_take, List.length_drop, HMm.out]; omega
                    have e2 : sealCells (c'.less k).seals = [] ++ sealCells ((c'.seals.drop 0).take k) ++ sealCells (c'.seals.drop (k + 1)) := by
                      unfold CommitD.less
                      rw [sealCells_app, List.drop_zero]; rfl
                    rw [e1, e2]; exact (h1.grown g).mono g.size)
                  have HLl := Lib.hid (show (cv.set 34 v3).length = 35 from by rw [List.length_set]; exact HLn.out)
                  have hkm : k < c'.seals.length := by rw [HMm.out]; exact hlt
                  have ELk0 := EL.out k hkm
                  have KE0 := fun W (g : w7.grownBy W none) => RowAt.elem (KR.out W g) (fun d _ => d.cells_length) k hkm 0 _ rfl
                  obtain ⟨ky, hky⟩ : ∃ x, c'.seals[k].key = x := ⟨_, rfl⟩
                  rw [hky] at ELk0
                  have KE := Lib.hid (show ∀ W, w7.grownBy W none → W.cell? ⟨gs, os + k * 3, none⟩ = some (.int .u64 ky) from fun W g => by have := KE0 W g; rw [hky, Nat.add_zero] at this; exact this)
                  obtain ⟨pw, hpw⟩ : ∃ x, powL ky ds = x := ⟨_, rfl⟩
                  have HRg := Lib.hid (show 0 ≤ n ∧ n ≤ 1125899906842624 ∧ 0 ≤ pw ∧ pw ≤ 1125899906842624 from by
                    have h1 := pow_le HOKk.out c'.block
                    rw [HPn.out] at h1
                    have h2 := key_small HRi.out ky
                    rw [hpw] at h2
                    exact ⟨h1.1, by omega, h2⟩)
                  have CPw := Lib.hid (fun W (g : w7.grownBy W none) => RPowerV_ok (.slice va ds.length vc) ds ky W (HRD.out.grown (Lib.grownBy_trans G.out g)))
                  rw [hpw] at CPw ELk0
                  have CSm := Lib.hid (fun W (g : w7.grownBy W none) => RSumV_ok (.slice va ds.length vc) ds W (HRD.out.grown (Lib.grownBy_trans G.out g)))
                  rw [HTT.out] at CSm
                  obtain ⟨tot, htot⟩ : ∃ x, totalL ds = x := ⟨_, rfl⟩
                  rw [htot] at CSm ELk0
                  obtain ⟨en, hen⟩ : ∃ x, twoB (n - pw) tot = x := ⟨_, rfl⟩
                  have CTw := Lib.hid (fun W => Two_ok (n - pw) tot W)
                  rw [hen] at CTw ELk0
                  have ELk := Lib.hid ELk0
                  clear ELk0 KE0
                  clear hpw htot hen hky hkm b4 g4 F4 E3 Z3 k0 k1 k2
                  have CCl := Lib.hid (fun W (g : u4.grownBy W none) => Check_ok (.slice va ds.length vc) ds chain (c'.less k) (cv.set 34 v3) W (HRD.out.grown (Lib.grownBy_trans G.out (Lib.grownBy_trans G4.out g))) HCh.out HWl.out (RL.out W g) HNl.out (HR.out.grown (Lib.grownBy_trans G.out (Lib.grownBy_trans G4.out g)) (by simp)) (Lib.grownBy_trans G.out (Lib.grownBy_trans G4.out g)).size)
                  obtain ⟨ce, hce⟩ : ∃ x, checkL ds chain (c'.less k) = x := ⟨_, rfl⟩
                  rw [hce] at CCl
                  have HCe := Lib.hid (show ce = if en then 0 else 158 from by
                    have h1 := ELk.out
                    rw [hce] at h1
                    have h2 := check_two (c := c'.less k) (chain := chain) HRi.out
                    rw [hce] at h2
                    cases en
                    · rcases h2 with h2 | h2
                      · have := h1.1 h2; cases this
                      · exact h2
                    · exact h1.2 rfl)
                  clear hce
                  have k0 := Lib.hid (dr_grown u4 1)
                  have KS := Lib.hid (show ∀ W, u4.grownBy W none → W.cell? ⟨b, 0, none⟩ = some (.slice va ds.length vc) ∧ W.cell? ⟨y, 34, none⟩ = some (.slice (some ⟨gs, os, none⟩) m sc) ∧ W.cell? ⟨gs, os + k * 3, none⟩ = some (.int .u64 ky) from fun W g => ⟨(KB.out _ (Lib.grownBy_trans G4.out g)).1, K34.out _ (Lib.grownBy_trans G4.out g), KE.out _ (Lib.grownBy_trans G4.out g)⟩)
                  have KG := Lib.hid (Lib.grownBy_trans G4.out k0.out)
                  go_upto_region 20 with (fail)
                  refine wp_region_held_drew (S := fun W => W.cell? ⟨b, 0, none⟩ = some (.slice va ds.length vc) ∧ W.cell? ⟨y, 34, none⟩ = some (.slice (some ⟨gs, os, none⟩) m sc) ∧ W.cell? ⟨gs, os + k * 3, none⟩ = some (.int .u64 ky)) (by kernel_rfl) (KS.out _ k0.out) (fun hH => ?_)
                  refine wpAnyH_take (i := 0) (v := (.int .i64 n)) rfl (by kernel_rfl) (by kernel_rfl) (by kernel_rfl) (fun _ _ _ h => h) (Or.inl ⟨by rfl, fun W hS => by go_simp⟩) hH ?_
                  simp only [Act.put, List.getElem_toArray, List.getElem_cons_succ, List.getElem_cons_zero, List.setIfInBounds_toArray, List.set_cons_zero, List.set_cons_succ]
                  refine wpAnyH_take (i := 1) (v := (.pointer (some ⟨b, 0, none⟩))) rfl (by kernel_rfl) (by kernel_rfl) (by kernel_rfl) (fun _ _ _ h => h) (Or.inl ⟨by rfl, fun W hS => by go_simp⟩) hH ?_
                  simp only [Act.put, List.getElem_toArray, List.getElem_cons_succ, List.getElem_cons_zero, List.setIfInBounds_toArray, List.set_cons_zero, List.set_cons_succ]
                  refine wpAnyH_take (i := 2) (v := (.slice va ds.length vc)) rfl (by kernel_rfl) (by kernel_rfl) (by kernel_rfl) (fun _ _ _ h => h) (Or.inl ⟨by rfl, fun W hS => by have c := hS.1; go_simp⟩) hH ?_
                  simp only [Act.put, List.getElem_toArray, List.getElem_cons_succ, List.getElem_cons_zero, List.setIfInBounds_toArray, List.set_cons_zero, List.set_cons_succ]
                  refine wpAnyH_take (i := 3) (v := (.pointer (some ⟨y, 34, none⟩))) rfl (by kernel_rfl) (by kernel_rfl) (by kernel_rfl) (fun _ _ _ h => h) (Or.inl ⟨by rfl, fun W hS => by go_simp⟩) hH ?_
                  simp only [Act.put, List.getElem_toArray, List.getElem_cons_succ, List.getElem_cons_zero, List.setIfInBounds_toArray, List.set_cons_zero, List.set_cons_succ]
                  refine wpAnyH_take (i := 4) (v := (.slice (some ⟨gs, os, none⟩) m sc)) rfl (by kernel_rfl) (by kernel_rfl) (by kernel_rfl) (fun _ _ _ h => h) (Or.inl ⟨by rfl, fun W hS => by have c := hS.2.1; go_simp⟩) hH ?_
                  simp only [Act.put, List.getElem_toArray, List.getElem_cons_succ, List.getElem_cons_zero, List.setIfInBounds_toArray, List.set_cons_zero, List.set_cons_succ]
                  refine wpAnyH_take (i := 5) (v := (.int .i64 k)) rfl (by kernel_rfl) (by kernel_rfl) (by kernel_rfl) (fun _ _ _ h => h) (Or.inl ⟨by rfl, fun W hS => by go_simp⟩) hH ?_
                  simp only [Act.put, List.getElem_toArray, List.getElem_cons_succ, List.getElem_cons_zero, List.setIfInBounds_toArray, List.set_cons_zero, List.set_cons_succ]
                  refine wpAnyH_take (i := 6) (v := (.pointer (some ⟨gs, os + k * 3, none⟩))) rfl (by kernel_rfl) (by kernel_rfl) (by kernel_rfl) (fun _ _ _ h => h) (Or.inl ⟨by rfl, fun W hS => by go_simp⟩) hH ?_
                  simp only [Act.put, List.getElem_toArray, List.getElem_cons_succ, List.getElem_cons_zero, List.setIfInBounds_toArray, List.set_cons_zero, List.set_cons_succ]
                  refine wpAnyH_take (i := 7) (v := (.pointer (some ⟨gs, os + k * 3, none⟩))) rfl (by kernel_rfl) (by kernel_rfl) (by kernel_rfl) (fun _ _ _ h => h) (Or.inl ⟨by rfl, fun W hS => by go_simp⟩) hH ?_
                  simp only [Act.put, List.getElem_toArray, List.getElem_cons_succ, List.getElem_cons_zero, List.setIfInBounds_toArray, List.set_cons_zero, List.set_cons_succ]
                  refine wpAnyH_take (i := 8) (v := (.int .u64 ky)) rfl (by kernel_rfl) (by kernel_rfl) (by kernel_rfl) (fun _ _ _ h => h) (Or.inl ⟨by rfl, fun W hS => by have c := hS.2.2; go_simp⟩) hH ?_
                  simp only [Act.put, List.getElem_toArray, List.getElem_cons_succ, List.getElem_cons_zero, List.setIfInBounds_toArray, List.set_cons_zero, List.set_cons_succ]
                  refine wpAnyH_take (i := 11) (v := (.pointer (some ⟨b, 0, none⟩))) rfl (by kernel_rfl) (by kernel_rfl) (by kernel_rfl) (fun _ _ _ h => h) (Or.inl ⟨by rfl, fun W hS => by go_simp⟩) hH ?_
                  simp only [Act.put, List.getElem_toArray, List.getElem_cons_succ, List.getElem_cons_zero, List.setIfInBounds_toArray, List.set_cons_zero, List.set_cons_succ]
                  refine wpAnyH_take (i := 12) (v := (.slice va ds.length vc)) rfl (by kernel_rfl) (by kernel_rfl) (by kernel_rfl) (fun _ _ _ h => h) (Or.inl ⟨by rfl, fun W hS => by have c := hS.1; go_simp⟩) hH ?_
                  simp only [Act.put, List.getElem_toArray, List.getElem_cons_succ, List.getElem_cons_zero, List.setIfInBounds_toArray, List.set_cons_zero, List.set_cons_succ]
                  refine wpAnyH_ready (rs := [9]) (by kernel_rfl) (by simp) ?_
                  refine AllReadyH.cons rfl (fun K hK => ?_) AllReadyH.nil
                  refine step_wantedG (by rfl) (wp_call 33 _ _ (by rfl) (enters Tryd.func33 (by kernel_rfl) rfl) (by rfl) (CPw.out _ KG.out) ?_)
                  rintro e u ⟨rfl, rfl⟩
                  refine ⟨_, rfl, ?_⟩
                  simp only [Act.put, List.getElem_toArray, List.getElem_cons_succ, List.getElem_cons_zero, List.setIfInBounds_toArray, List.set_cons_zero, List.set_cons_succ]
                  refine hK.out _ _ (KS.out _ k0.out) (fun hH => ?_)
                  clear hK K
                  refine wpAnyH_take (i := 10) (v := (.int .i64 (n - pw))) rfl (by kernel_rfl) (by kernel_rfl) (by kernel_rfl) (fun _ _ _ h => h) (Or.inl ⟨by rfl, fun W hS => by have e1 : IntKind.i64.wrap (n - pw) = n - pw := IntWalk.i64_in _ (by have := HRg.out; omega); go_simp; try exact e1⟩) hH ?_
                  simp only [Act.put, List.getElem_toArray, List.getElem_cons_succ, List.getElem_cons_zero, List.setIfInBounds_toArray, List.set_cons_zero, List.set_cons_succ]
                  refine wpAnyH_ready (rs := [13]) (by kernel_rfl) (by simp) ?_
                  refine AllReadyH.cons rfl (fun K hK => ?_) AllReadyH.nil
                  refine step_wantedG (by rfl) (wp_call 19 _ _ (by rfl) (enters Tryd.func19 (by kernel_rfl) rfl) (by rfl) (CSm.out _ KG.out) ?_)
                  rintro e u ⟨rfl, rfl⟩
                  refine ⟨_, rfl, ?_⟩
                  simp only [Act.put, List.getElem_toArray, List.getElem_cons_succ, List.getElem_cons_zero, List.setIfInBounds_toArray, List.set_cons_zero, List.set_cons_succ]
                  refine hK.out _ _ (KS.out _ k0.out) (fun hH => ?_)
                  clear hK K
                  refine wpAnyH_ready (rs := [14]) (by kernel_rfl) (by simp) ?_
                  refine AllReadyH.cons rfl (fun K hK => ?_) AllReadyH.nil
                  refine step_wantedG (by rfl) (wp_call 14 _ _ (by rfl) (enters Tryd.func14 (by kernel_rfl) rfl) (by rfl) (CTw.out _) ?_)
                  rintro e u ⟨rfl, rfl⟩
                  refine ⟨_, rfl, ?_⟩
                  simp only [Act.put, List.getElem_toArray, List.getElem_cons_succ, List.getElem_cons_zero, List.setIfInBounds_toArray, List.set_cons_zero, List.set_cons_succ]
                  refine hK.out _ _ (KS.out _ k0.out) (fun hH => ?_)
                  clear hK K
                  refine wpAnyH_take (i := 15) (v := (.bool en)) rfl (by kernel_rfl) (by kernel_rfl) (by kernel_rfl) (fun _ _ _ h => h) (Or.inl ⟨by rfl, fun W hS => by go_simp⟩) hH ?_
                  simp only [Act.put, List.getElem_toArray, List.getElem_cons_succ, List.getElem_cons_zero, List.setIfInBounds_toArray, List.set_cons_zero, List.set_cons_succ]
                  refine wpAnyH_done (by kernel_rfl) ?_ _
                  have GX := Lib.hid (show u4.grownBy u4.drew none from k0.out)
                  have Z5 := Lib.hid (Z4.out.grown GX.out (by simp))
                  have c0 := (KB.out _ G4.out).1; have c1 := (KB.out _ G4.out).2
                  have hce := HCe.out
                  go_wp2_with (first | (refine wpList_load_part rfl 54 _ rfl z 0 rfl (cv.set 34 v3) _ Z5.out.row Tryd.underlying54 rfl (by rw [HLl.out]; exact sizeCommit) ?_))
                  refine (CCl.out _ GX.out).mono ?_
                  rintro e w30 ⟨rfl, g30⟩
                  have GY := Lib.hid (Lib.grownBy_trans KG.out g30)
                  clear g30 c0 c1 GX Z5
                  cases hev : en with
                  | false =>
                    rw [hev, if_neg (by decide)] at hce
                    subst hce
                    go_wp2_with fail
                    exact ⟨⟨k + 1, by omega, rfl, by go_num, GY.out⟩, by simp [intOf]; omega⟩
                  | true =>
                    rw [hev, if_pos rfl] at hce
                    subst hce
                    go_wp2_with fail
                    exact ⟨⟨k + 1, by omega, rfl, by go_num, GY.out⟩, by simp [intOf]; omega⟩
                · obtain rfl : k = m := by omega
                  have Yr := Lib.hid (KY.out _ Hg.out)
                  obtain ⟨hh2, ehh⟩ : ∃ x, c'.height = x := ⟨_, rfl⟩
                  obtain ⟨rr2, err⟩ : ∃ x, c'.round = x := ⟨_, rfl⟩
                  have HNZ := Lib.hid (show cv.take 2 ++ (ZH ++ cv.drop (2 + ZH.length)) = commitV c'.height c'.round (List.replicate 32 0) (.slice (some ⟨gs, os, none⟩) k sc) from by
                    rw [← HCv.out, HMm.out, ZH_length]
                    unfold commitV ZH
                    have e1 : ([.int .i64 c'.height, .int .i64 c'.round] ++ Lib.byteCells c'.block ++ [.slice (some ⟨gs, os, none⟩) k sc] : List Value).drop (2 + 32) = [.slice (some ⟨gs, os, none⟩) k sc] := by
                      rw [List.drop_append, List.drop_eq_nil_of_le (by simp [Lib.byteCells_length, HBl.out])]
                      simp [Lib.byteCells_length, HBl.out]
                    rw [e1]
                    rfl)
                  go_wp2_with (first | (refine wpList_load_part rfl 54 _ rfl y 0 rfl cv _ Yr.out.row Tryd.underlying54 rfl (by rw [HLn.out]; exact sizeCommit) ?_) | (refine wpList_alloc_as rfl 54 rfl ZCommit ZCommit_info ?_))
                  intro w11 b11 g11 s11
                  obtain ⟨z, hz⟩ : ∃ z, wr.heap.size = z := ⟨_, rfl⟩
                  rw [hz] at b11 s11 ⊢
                  have Z := Lib.hid b11; have GZ := Lib.hid g11; have HZs := Lib.hid hz
                  clear b11 g11 s11 hz
                  go_wp2_with (refine wpList_store_whole rfl 54 _ _ rfl z rfl cv ZCommit 54 rfl Z.out (by rw [HLn.out]; rfl) HOn.out (by rw [HLn.out]; exact sizeCommit) ?_)
                  intro w12 g12 s12 b12
                  have HZ7 := Lib.hid (show w7.heap.size ≤ z by have := Hg.out.size; have := HZs.out; omega)
                  have HYz := Lib.hid (show y < z by have := Yr.out.lt; have := HZs.out; omega)
                  have G12 := Lib.hid (Lib.grownBy_trans Hg.out (grown_new GZ.out g12 (by rw [HZs.out]; exact Nat.le_refl _)))
                  replace Z := Lib.hid b12
                  clear b12 g12 s12 GZ HZs Yr c34
                  go_wp2_with (first | (refine wpList_build_eq rfl 25 _ rfl [] (by kernel_rfl) ZH bHash0 ?_) | (refine wpList_store_part rfl 25 _ _ rfl z 2 rfl ZH cv 54 rfl Z.out (by rw [HLn.out, ZH_length]; decide) ZH_one (sizeH _ ZH_length) ?_))
                  intro w13 g13 s13 b13
                  rw [HNZ.out] at b13
                  obtain ⟨nz, hnz⟩ : ∃ x, commitV c'.height c'.round (List.replicate 32 0) (.slice (some ⟨gs, os, none⟩) k sc) = x := ⟨_, rfl⟩
                  rw [hnz] at b13
                  have HNz := Lib.hid hnz
                  have HLz := Lib.hid (show nz.length = 35 by rw [← hnz]; exact commitV_len _ _ _ _ rfl)
                  have G13 := Lib.hid (grown_new G12.out g13 HZ7.out)
                  replace Z := Lib.hid b13
                  clear b13 g13 s13 hnz G12
                  have Yr := Lib.hid (KY.out _ G13.out)
                  go_wp2_with (first | (refine wpList_load_part rfl 54 _ rfl y 0 rfl cv _ Yr.out.row Tryd.underlying54 rfl (by rw [HLn.out]; exact sizeCommit) ?_) | (refine wpList_alloc_as rfl 54 rfl ZCommit ZCommit_info ?_))
                  intro w14 b14 g14 s14
                  obtain ⟨t', ht⟩ : ∃ z, w13.heap.size = z := ⟨_, rfl⟩
                  rw [ht] at b14 s14 ⊢
                  have X := Lib.hid b14; have GX := Lib.hid g14; have HTs2 := Lib.hid ht
                  clear b14 g14 s14 ht
                  go_wp2_with (refine wpList_store_whole rfl 54 _ _ rfl t' rfl cv ZCommit 54 rfl X.out (by rw [HLn.out]; rfl) HOn.out (by rw [HLn.out]; exact sizeCommit) ?_)
                  intro w15 g15 s15 b15
                  have GXX := Lib.hid (grown_new GX.out g15 (by rw [HTs2.out]; exact Nat.le_refl _))
                  have G15 := Lib.hid (Lib.grownBy_trans G13.out GXX.out)
                  have HT7 := Lib.hid (show w7.heap.size ≤ t' by have := G13.out.size; have := HTs2.out; omega)
                  have HTz := Lib.hid (show z < t' ∧ y < t' by have := Z.out.lt; have := Yr.out.lt; have := HTs2.out; omega)
                  replace X := Lib.hid b15; replace Z := Lib.hid (Z.out.grown GXX.out (by simp))
                  have HT15 := Lib.hid (show t' < w15.heap.size from X.out.lt)
                  clear b15 g15 s15 GX GXX HTs2 Yr G13
                  have HM30 := Lib.hid (show k ≤ 30 by rw [← HMm.out]; exact HNn.out)
                  have hkl : k - 1 < c'.seals.length := by rw [HMm.out]; omega
                  have KE0 := fun W (g : w15.grownBy W none) => RowAt.elem (KR.out W (Lib.grownBy_trans G15.out g)) (fun d _ => d.cells_length) (k - 1) hkl
                  obtain ⟨la', hla⟩ : ∃ x, c'.seals[k - 1] = x := ⟨_, rfl⟩
                  have HLa := Lib.hid (show la' ∈ c'.seals by rw [← hla]; exact List.getElem_mem hkl)
                  have KE := Lib.hid (show ∀ W, w15.grownBy W none → RowAt W gs (os + (k - 1) * 3) la'.cells from fun W g => by have := KE0 W g; rw [hla] at this; exact this)
                  clear KE0
                  clear hla hkl
                  have k0 := Lib.hid (dr_grown w15 1)
                  have KS := Lib.hid (show ∀ W, w15.grownBy W none → W.cell? ⟨y, 34, none⟩ = some (.slice (some ⟨gs, os, none⟩) k sc) ∧ RowAt W gs (os + (k - 1) * 3) la'.cells from fun W g => ⟨K34.out _ (Lib.grownBy_trans G15.out g), KE.out W g⟩)
                  have KRr := Lib.hid (show ∀ W, w15.grownBy W none → RowAt W gs os (sealCells c'.seals) from fun W g => KR.out _ (Lib.grownBy_trans G15.out g))
                  have ew := IntWalk.i64_in ((k : Int) - 1) (by have := HM30.out; omega)
                  have ek : ((k : Int) - 1) = ((k - 1 : Nat) : Int) := by omega
                  have EW := Lib.hid (show IntKind.i64.wrap ((k : Int) - 1) = ((k - 1 : Nat) : Int) by rw [ew, ek])
                  have hk1 : k - 1 < k := by omega
                  clear ew ek
                  go_upto_region 25 with (fail)
                  go_cut [12] from 160 (fun s12 w' => s12 = .bool true ∧ ∃ v13 : Value, w7.grownBy w' none ∧ Blk w' z nz 54 ∧ Blk w' t' (cv.set 34 v13) 54 ∧ w'.ownsRow w15.heap.size 63 3 v13 (0 + k + 1) ([] ++ sealCells (c'.seals.drop 0) ++ sealCells [la']))
                  case first =>
                    refine wp_region_held_drew (S := fun W => W.cell? ⟨y, 34, none⟩ = some (.slice (some ⟨gs, os, none⟩) k sc) ∧ RowAt W gs (os + (k - 1) * 3) la'.cells) (by kernel_rfl) (KS.out _ k0.out) (fun hH => ?_)
                    refine wpAnyH_take (i := 1) (v := (.pointer (some ⟨y, 34, none⟩))) rfl (by kernel_rfl) (by kernel_rfl) (by kernel_rfl) (fun _ _ _ h => h) (Or.inl ⟨by rfl, fun W hS => by go_simp⟩) hH ?_
                    simp only [Act.put, List.getElem_toArray, List.getElem_cons_succ, List.getElem_cons_zero, List.setIfInBounds_toArray, List.set_cons_zero, List.set_cons_succ]
                    refine wpAnyH_take (i := 2) (v := (.slice (some ⟨gs, os, none⟩) k sc)) rfl (by kernel_rfl) (by kernel_rfl) (by kernel_rfl) (fun _ _ _ h => h) (Or.inl ⟨by rfl, fun W hS => by have c := hS.1; go_simp⟩) hH ?_
                    simp only [Act.put, List.getElem_toArray, List.getElem_cons_succ, List.getElem_cons_zero, List.setIfInBounds_toArray, List.set_cons_zero, List.set_cons_succ]
                    refine wpAnyH_take (i := 4) (v := (.pointer (some ⟨y, 34, none⟩))) rfl (by kernel_rfl) (by kernel_rfl) (by kernel_rfl) (fun _ _ _ h => h) (Or.inl ⟨by rfl, fun W hS => by go_simp⟩) hH ?_
                    simp only [Act.put, List.getElem_toArray, List.getElem_cons_succ, List.getElem_cons_zero, List.setIfInBounds_toArray, List.set_cons_zero, List.set_cons_succ]
                    refine wpAnyH_take (i := 5) (v := (.slice (some ⟨gs, os, none⟩) k sc)) rfl (by kernel_rfl) (by kernel_rfl) (by kernel_rfl) (fun _ _ _ h => h) (Or.inl ⟨by rfl, fun W hS => by have c := hS.1; go_simp⟩) hH ?_
                    simp only [Act.put, List.getElem_toArray, List.getElem_cons_succ, List.getElem_cons_zero, List.setIfInBounds_toArray, List.set_cons_zero, List.set_cons_succ]
                    refine wpAnyH_take (i := 6) (v := (.pointer (some ⟨y, 34, none⟩))) rfl (by kernel_rfl) (by kernel_rfl) (by kernel_rfl) (fun _ _ _ h => h) (Or.inl ⟨by rfl, fun W hS => by go_simp⟩) hH ?_
                    simp only [Act.put, List.getElem_toArray, List.getElem_cons_succ, List.getElem_cons_zero, List.setIfInBounds_toArray, List.set_cons_zero, List.set_cons_succ]
                    refine wpAnyH_take (i := 7) (v := (.slice (some ⟨gs, os, none⟩) k sc)) rfl (by kernel_rfl) (by kernel_rfl) (by kernel_rfl) (fun _ _ _ h => h) (Or.inl ⟨by rfl, fun W hS => by have c := hS.1; go_simp⟩) hH ?_
                    simp only [Act.put, List.getElem_toArray, List.getElem_cons_succ, List.getElem_cons_zero, List.setIfInBounds_toArray, List.set_cons_zero, List.set_cons_succ]
                    refine wpAnyH_take (i := 8) (v := (.int .i64 k)) rfl (by kernel_rfl) (by kernel_rfl) (by kernel_rfl) (fun _ _ _ h => h) (Or.inl ⟨by rfl, fun W hS => by go_simp⟩) hH ?_
                    simp only [Act.put, List.getElem_toArray, List.getElem_cons_succ, List.getElem_cons_zero, List.setIfInBounds_toArray, List.set_cons_zero, List.set_cons_succ]
                    refine wpAnyH_take (i := 9) (v := (.int .i64 ((k - 1 : Nat) : Int))) rfl (by kernel_rfl) (by kernel_rfl) (by kernel_rfl) (fun _ _ _ h => h) (Or.inl ⟨by rfl, fun W hS => by have e1 := EW.out; go_simp; try exact e1⟩) hH ?_
                    simp only [Act.put, List.getElem_toArray, List.getElem_cons_succ, List.getElem_cons_zero, List.setIfInBounds_toArray, List.set_cons_zero, List.set_cons_succ]
                    refine wpAnyH_take (i := 10) (v := (.pointer (some ⟨gs, os + (k - 1) * 3, none⟩))) rfl (by kernel_rfl) (by kernel_rfl) (by kernel_rfl) (fun _ _ _ h => h) (Or.inl ⟨by rfl, fun W hS => by go_simp⟩) hH ?_
                    simp only [Act.put, List.getElem_toArray, List.getElem_cons_succ, List.getElem_cons_zero, List.setIfInBounds_toArray, List.set_cons_zero, List.set_cons_succ]
                    refine wpAnyH_take (i := 11) (v := (.agg la'.cells.toArray)) rfl (by kernel_rfl) (by kernel_rfl) (by kernel_rfl) (fun _ _ _ h => h) (yieldsIf_load_mid (by rfl) 63 _ rfl gs (os + (k - 1) * 3) rfl la'.cells _ (fun W h => h.2) Tryd.underlying63 rfl (sizeSeal)) hH ?_
                    simp only [Act.put, List.getElem_toArray, List.getElem_cons_succ, List.getElem_cons_zero, List.setIfInBounds_toArray, List.set_cons_zero, List.set_cons_succ]
                    refine wpAnyH_ready (rs := [0, 12]) (by kernel_rfl) (by simp) ?_
                    refine AllReadyH.cons rfl (fun K hK => ?_) (AllReadyH.cons rfl (fun K hK => ?_) (AllReadyH.nil))
                    · refine step_wantedG (by rfl) (wp_empty 52 63 (by rfl) Tryd.underlying52 (by kernel_rfl) ?_)
                      intro u1 b g _
                      have k1 := Lib.hid (Lib.grownBy_trans k0.out g)
                      have E1 := Lib.hid (ownsRow_empty (B := w15.heap.size) (size := 3) b k0.out.size)
                      clear b g
                      simp only [Act.put, List.getElem_toArray, List.getElem_cons_succ, List.getElem_cons_zero, List.setIfInBounds_toArray, List.set_cons_zero, List.set_cons_succ]
                      refine hK.out _ _ (KS.out _ k1.out) (fun hH => ?_)
                      clear hK K
                      refine wpAnyH_ready (rs := [3, 12]) (by kernel_rfl) (by simp) ?_
                      refine AllReadyH.cons rfl (fun K hK => ?_) (AllReadyH.cons rfl (fun K hK => ?_) (AllReadyH.nil))
                      · refine step_wantedG (by rfl) (wp_append_srcs _ _ _ 52 52 (by rfl) w15.heap.size 63 (.agg #[.int .u64 0, .int .u64 0, .int .u64 0]) 3 24 Tryd.underlying52 seal_info rfl _ 0 [] (by rfl) E1.out _ k _ (by rfl) (src_seals' (KRr.out _ k1.out) 0 k (by rw [HMm.out]; omega) sc os (.inl (by omega))) (by unfold maxLen; have := HM30.out; omega) (by have := HM30.out; omega) k1.out.size ?_)
                        intro v3 u2 o g b _
                        have k2 := Lib.hid (below_grown ((below_of_grown k1.out).trans b))
                        have A2 := Lib.hid o
                        clear o b g
                        simp only [Act.put, List.getElem_toArray, List.getElem_cons_succ, List.getElem_cons_zero, List.setIfInBounds_toArray, List.set_cons_zero, List.set_cons_succ]
                        refine hK.out _ _ (KS.out _ k2.out) (fun hH => ?_)
                        clear hK K
                        refine wpAnyH_ready (rs := [12]) (by kernel_rfl) (by simp) ?_
                        refine AllReadyH.cons rfl (fun K hK => ?_) (AllReadyH.nil)
                        refine step_wantedG (by rfl) (wp_one 52 63 _ (by rfl) Tryd.underlying52 [.int .u64 0, .int .u64 0, .int .u64 0] la'.cells 3 (by decide) (by decide) (by kernel_rfl) rfl rfl (by rfl) ?_)
                        intro u3 b g _
                        have k3 := Lib.hid (Lib.grownBy_trans k2.out g)
                        have N3 := Lib.hid b
                        have A3 := Lib.hid (ownsRow.kp A2.out (Kp.still g (S := fun _ => False)) (fun _ _ h => h))
                        clear b g
                        simp only [Act.put, List.getElem_toArray, List.getElem_cons_succ, List.getElem_cons_zero, List.setIfInBounds_toArray, List.set_cons_zero, List.set_cons_succ]
                        refine hK.out _ _ (KS.out _ k3.out) (fun hH => ?_)
                        clear hK K
                        refine wpAnyH_ready (rs := [13]) (by kernel_rfl) (by simp) ?_
                        refine AllReadyH.cons rfl (fun K hK => ?_) (AllReadyH.nil)
                        refine step_wantedG (by rfl) (wp_append_srcs _ _ _ 52 52 (by rfl) w15.heap.size 63 (.agg #[.int .u64 0, .int .u64 0, .int .u64 0]) 3 24 Tryd.underlying52 seal_info rfl v3 _ _ (by rfl) A3.out _ 1 _ (by rfl) (seal_own N3.out _ _ rfl) (by unfold maxLen; have := HM30.out; omega) (by have := HM30.out; omega) k3.out.size ?_)
                        intro v13 u4 o _ b _
                        have k4 := Lib.hid (below_grown ((below_of_grown k3.out).trans b))
                        have A4 := Lib.hid o
                        clear o b
                        simp only [Act.put, List.getElem_toArray, List.getElem_cons_succ, List.getElem_cons_zero, List.setIfInBounds_toArray, List.set_cons_zero, List.set_cons_succ]
                        refine hK.out _ _ (KS.out _ k4.out) (fun hH => ?_)
                        clear hK K
                        refine wpAnyH_take (i := 14) (v := (.pointer (some ⟨t', 34, none⟩))) rfl (by kernel_rfl) (by kernel_rfl) (by kernel_rfl) (fun _ _ _ h => h) (Or.inl ⟨by rfl, fun W hS => by go_simp⟩) hH ?_
                        simp only [Act.put, List.getElem_toArray, List.getElem_cons_succ, List.getElem_cons_zero, List.setIfInBounds_toArray, List.set_cons_zero, List.set_cons_succ]
                        refine wpAnyH_ready (rs := [15]) (by kernel_rfl) (by simp) ?_
                        refine AllReadyH.cons rfl (fun K hK => ?_) AllReadyH.nil
                        refine step_wantedG (by rfl) (wp_store_cell 52 _ _ (by rfl) t' 34 (by rfl) v13 (by rfl) (own_one A4.out) cv 54 (X.out.grown k4.out (by simp)) (by rw [HLn.out]; omega) (by kernel_rfl) ?_)
                        intro u9 g9 _ b9
                        have F9 := Lib.hid (show u9.cell? ⟨y, 34, none⟩ = some (.slice (some ⟨gs, os, none⟩) k sc) ∧ RowAt u9 gs (os + (k - 1) * 3) la'.cells from by
                          have g := grown_new (Lib.grownBy_trans G15.out k4.out) g9 HT7.out
                          have h2 := (KE.out _ k4.out).grown g9 (by have h3 := HGs.out; have h4 := HT7.out; simp; omega)
                          exact ⟨K34.out _ g, h2⟩)
                        simp only [Act.put, List.getElem_toArray, List.getElem_cons_succ, List.getElem_cons_zero, List.setIfInBounds_toArray, List.set_cons_zero, List.set_cons_succ]
                        refine hK.out _ _ (F9.out) (fun hH => ?_)
                        clear hK K
                        refine wpAnyH_done (by kernel_rfl) ?_ _
                        go_wp2_with fail
                        go_meet
                        case rel => exact ⟨rfl, v13, (grown_new (Lib.grownBy_trans G15.out k4.out) g9 HT7.out), ((Z.out.grown k4.out (by simp)).grown g9 (by have := HTz.out; simp; omega)), b9, (ownsRow.kp A4.out (Kp.of g9 (S := fun i => i = t') (fun i x _ => by cases x; rfl)) (fun g hg hx => by have h1 := (A4.out.lt g hg).1; have h2 := HT15.out; omega))⟩
                      · refine step_wantedG (by rfl) (wp_one 52 63 _ (by rfl) Tryd.underlying52 [.int .u64 0, .int .u64 0, .int .u64 0] la'.cells 3 (by decide) (by decide) (by kernel_rfl) rfl rfl (by rfl) ?_)
                        intro u2 b g _
                        have k2 := Lib.hid (Lib.grownBy_trans k1.out g)
                        have N2 := Lib.hid b
                        have E2 := Lib.hid (ownsRow.kp E1.out (Kp.still g (S := fun _ => False)) (fun _ _ h => h))
                        have HNE2 := Lib.hid (Nat.ne_of_gt (ownsRow.lt E1.out rfl))
                        clear b g
                        simp only [Act.put, List.getElem_toArray, List.getElem_cons_succ, List.getElem_cons_zero, List.setIfInBounds_toArray, List.set_cons_zero, List.set_cons_succ]
                        refine hK.out _ _ (KS.out _ k2.out) (fun hH => ?_)
                        clear hK K
                        refine wpAnyH_ready (rs := [3]) (by kernel_rfl) (by simp) ?_
                        refine AllReadyH.cons rfl (fun K hK => ?_) (AllReadyH.nil)
                        refine step_wantedG (by rfl) (wp_append_srcs _ _ _ 52 52 (by rfl) w15.heap.size 63 (.agg #[.int .u64 0, .int .u64 0, .int .u64 0]) 3 24 Tryd.underlying52 seal_info rfl _ 0 [] (by rfl) E2.out _ k _ (by rfl) (src_seals' (KRr.out _ k2.out) 0 k (by rw [HMm.out]; omega) sc os (.inl (by omega))) (by unfold maxLen; have := HM30.out; omega) (by have := HM30.out; omega) k2.out.size ?_)
                        intro v3 u3 o g b _
                        have k3 := Lib.hid (below_grown ((below_of_grown k2.out).trans b))
                        have A3 := Lib.hid o
                        have N3 := Lib.hid (N2.out.grown g (by have h9 := HNE2.out; simp [Value.ownBlock] at h9 ⊢; omega))
                        clear o b g
                        simp only [Act.put, List.getElem_toArray, List.getElem_cons_succ, List.getElem_cons_zero, List.setIfInBounds_toArray, List.set_cons_zero, List.set_cons_succ]
                        refine hK.out _ _ (KS.out _ k3.out) (fun hH => ?_)
                        clear hK K
                        refine wpAnyH_ready (rs := [13]) (by kernel_rfl) (by simp) ?_
                        refine AllReadyH.cons rfl (fun K hK => ?_) (AllReadyH.nil)
                        refine step_wantedG (by rfl) (wp_append_srcs _ _ _ 52 52 (by rfl) w15.heap.size 63 (.agg #[.int .u64 0, .int .u64 0, .int .u64 0]) 3 24 Tryd.underlying52 seal_info rfl v3 _ _ (by rfl) A3.out _ 1 _ (by rfl) (seal_own N3.out _ _ rfl) (by unfold maxLen; have := HM30.out; omega) (by have := HM30.out; omega) k3.out.size ?_)
                        intro v13 u4 o _ b _
                        have k4 := Lib.hid (below_grown ((below_of_grown k3.out).trans b))
                        have A4 := Lib.hid o
                        clear o b
                        simp only [Act.put, List.getElem_toArray, List.getElem_cons_succ, List.getElem_cons_zero, List.setIfInBounds_toArray, List.set_cons_zero, List.set_cons_succ]
                        refine hK.out _ _ (KS.out _ k4.out) (fun hH => ?_)
                        clear hK K
                        refine wpAnyH_take (i := 14) (v := (.pointer (some ⟨t', 34, none⟩))) rfl (by kernel_rfl) (by kernel_rfl) (by kernel_rfl) (fun _ _ _ h => h) (Or.inl ⟨by rfl, fun W hS => by go_simp⟩) hH ?_
                        simp only [Act.put, List.getElem_toArray, List.getElem_cons_succ, List.getElem_cons_zero, List.setIfInBounds_toArray, List.set_cons_zero, List.set_cons_succ]
                        refine wpAnyH_ready (rs := [15]) (by kernel_rfl) (by simp) ?_
                        refine AllReadyH.cons rfl (fun K hK => ?_) AllReadyH.nil
                        refine step_wantedG (by rfl) (wp_store_cell 52 _ _ (by rfl) t' 34 (by rfl) v13 (by rfl) (own_one A4.out) cv 54 (X.out.grown k4.out (by simp)) (by rw [HLn.out]; omega) (by kernel_rfl) ?_)
                        intro u9 g9 _ b9
                        have F9 := Lib.hid (show u9.cell? ⟨y, 34, none⟩ = some (.slice (some ⟨gs, os, none⟩) k sc) ∧ RowAt u9 gs (os + (k - 1) * 3) la'.cells from by
                          have g := grown_new (Lib.grownBy_trans G15.out k4.out) g9 HT7.out
                          have h2 := (KE.out _ k4.out).grown g9 (by have h3 := HGs.out; have h4 := HT7.out; simp; omega)
                          exact ⟨K34.out _ g, h2⟩)
                        simp only [Act.put, List.getElem_toArray, List.getElem_cons_succ, List.getElem_cons_zero, List.setIfInBounds_toArray, List.set_cons_zero, List.set_cons_succ]
                        refine hK.out _ _ (F9.out) (fun hH => ?_)
                        clear hK K
                        refine wpAnyH_done (by kernel_rfl) ?_ _
                        go_wp2_with fail
                        go_meet
                        case rel => exact ⟨rfl, v13, (grown_new (Lib.grownBy_trans G15.out k4.out) g9 HT7.out), ((Z.out.grown k4.out (by simp)).grown g9 (by have := HTz.out; simp; omega)), b9, (ownsRow.kp A4.out (Kp.of g9 (S := fun i => i = t') (fun i x _ => by cases x; rfl)) (fun g hg hx => by have h1 := (A4.out.lt g hg).1; have h2 := HT15.out; omega))⟩
                    · refine step_wantedG (by rfl) (wp_one 52 63 _ (by rfl) Tryd.underlying52 [.int .u64 0, .int .u64 0, .int .u64 0] la'.cells 3 (by decide) (by decide) (by kernel_rfl) rfl rfl (by rfl) ?_)
                      intro u1 b g _
                      have k1 := Lib.hid (Lib.grownBy_trans k0.out g)
                      have N1 := Lib.hid b
                      clear b g
                      simp only [Act.put, List.getElem_toArray, List.getElem_cons_succ, List.getElem_cons_zero, List.setIfInBounds_toArray, List.set_cons_zero, List.set_cons_succ]
                      refine hK.out _ _ (KS.out _ k1.out) (fun hH => ?_)
                      clear hK K
                      refine wpAnyH_ready (rs := [0]) (by kernel_rfl) (by simp) ?_
                      refine AllReadyH.cons rfl (fun K hK => ?_) (AllReadyH.nil)
                      refine step_wantedG (by rfl) (wp_empty 52 63 (by rfl) Tryd.underlying52 (by kernel_rfl) ?_)
                      intro u2 b g _
                      have k2 := Lib.hid (Lib.grownBy_trans k1.out g)
                      have E2 := Lib.hid (ownsRow_empty (B := w15.heap.size) (size := 3) b k1.out.size)
                      have N2 := Lib.hid (N1.out.grown g (by simp))
                      have HNE2 := Lib.hid (Nat.ne_of_lt N1.out.lt)
                      clear b g
                      simp only [Act.put, List.getElem_toArray, List.getElem_cons_succ, List.getElem_cons_zero, List.setIfInBounds_toArray, List.set_cons_zero, List.set_cons_succ]
                      refine hK.out _ _ (KS.out _ k2.out) (fun hH => ?_)
                      clear hK K
                      refine wpAnyH_ready (rs := [3]) (by kernel_rfl) (by simp) ?_
                      refine AllReadyH.cons rfl (fun K hK => ?_) (AllReadyH.nil)
                      refine step_wantedG (by rfl) (wp_append_srcs _ _ _ 52 52 (by rfl) w15.heap.size 63 (.agg #[.int .u64 0, .int .u64 0, .int .u64 0]) 3 24 Tryd.underlying52 seal_info rfl _ 0 [] (by rfl) E2.out _ k _ (by rfl) (src_seals' (KRr.out _ k2.out) 0 k (by rw [HMm.out]; omega) sc os (.inl (by omega))) (by unfold maxLen; have := HM30.out; omega) (by have := HM30.out; omega) k2.out.size ?_)
                      intro v3 u3 o g b _
                      have k3 := Lib.hid (below_grown ((below_of_grown k2.out).trans b))
                      have A3 := Lib.hid o
                      have N3 := Lib.hid (N2.out.grown g (by have h9 := HNE2.out; simp [Value.ownBlock] at h9 ⊢; omega))
                      clear o b g
                      simp only [Act.put, List.getElem_toArray, List.getElem_cons_succ, List.getElem_cons_zero, List.setIfInBounds_toArray, List.set_cons_zero, List.set_cons_succ]
                      refine hK.out _ _ (KS.out _ k3.out) (fun hH => ?_)
                      clear hK K
                      refine wpAnyH_ready (rs := [13]) (by kernel_rfl) (by simp) ?_
                      refine AllReadyH.cons rfl (fun K hK => ?_) (AllReadyH.nil)
                      refine step_wantedG (by rfl) (wp_append_srcs _ _ _ 52 52 (by rfl) w15.heap.size 63 (.agg #[.int .u64 0, .int .u64 0, .int .u64 0]) 3 24 Tryd.underlying52 seal_info rfl v3 _ _ (by rfl) A3.out _ 1 _ (by rfl) (seal_own N3.out _ _ rfl) (by unfold maxLen; have := HM30.out; omega) (by have := HM30.out; omega) k3.out.size ?_)
                      intro v13 u4 o _ b _
                      have k4 := Lib.hid (below_grown ((below_of_grown k3.out).trans b))
                      have A4 := Lib.hid o
                      clear o b
                      simp only [Act.put, List.getElem_toArray, List.getElem_cons_succ, List.getElem_cons_zero, List.setIfInBounds_toArray, List.set_cons_zero, List.set_cons_succ]
                      refine hK.out _ _ (KS.out _ k4.out) (fun hH => ?_)
                      clear hK K
                      refine wpAnyH_take (i := 14) (v := (.pointer (some ⟨t', 34, none⟩))) rfl (by kernel_rfl) (by kernel_rfl) (by kernel_rfl) (fun _ _ _ h => h) (Or.inl ⟨by rfl, fun W hS => by go_simp⟩) hH ?_
                      simp only [Act.put, List.getElem_toArray, List.getElem_cons_succ, List.getElem_cons_zero, List.setIfInBounds_toArray, List.set_cons_zero, List.set_cons_succ]
                      refine wpAnyH_ready (rs := [15]) (by kernel_rfl) (by simp) ?_
                      refine AllReadyH.cons rfl (fun K hK => ?_) AllReadyH.nil
                      refine step_wantedG (by rfl) (wp_store_cell 52 _ _ (by rfl) t' 34 (by rfl) v13 (by rfl) (own_one A4.out) cv 54 (X.out.grown k4.out (by simp)) (by rw [HLn.out]; omega) (by kernel_rfl) ?_)
                      intro u9 g9 _ b9
                      have F9 := Lib.hid (show u9.cell? ⟨y, 34, none⟩ = some (.slice (some ⟨gs, os, none⟩) k sc) ∧ RowAt u9 gs (os + (k - 1) * 3) la'.cells from by
                        have g := grown_new (Lib.grownBy_trans G15.out k4.out) g9 HT7.out
                        have h2 := (KE.out _ k4.out).grown g9 (by have h3 := HGs.out; have h4 := HT7.out; simp; omega)
                        exact ⟨K34.out _ g, h2⟩)
                      simp only [Act.put, List.getElem_toArray, List.getElem_cons_succ, List.getElem_cons_zero, List.setIfInBounds_toArray, List.set_cons_zero, List.set_cons_succ]
                      refine hK.out _ _ (F9.out) (fun hH => ?_)
                      clear hK K
                      refine wpAnyH_done (by kernel_rfl) ?_ _
                      go_wp2_with fail
                      go_meet
                      case rel => exact ⟨rfl, v13, (grown_new (Lib.grownBy_trans G15.out k4.out) g9 HT7.out), ((Z.out.grown k4.out (by simp)).grown g9 (by have := HTz.out; simp; omega)), b9, (ownsRow.kp A4.out (Kp.of g9 (S := fun i => i = t') (fun i x _ => by cases x; rfl)) (fun g hg hx => by have h1 := (A4.out.lt g hg).1; have h2 := HT15.out; omega))⟩
                  obtain ⟨hu, v13, g31, zb, xb, ow⟩ := hcut
                  subst hu
                  have G31 := Lib.hid g31; have Z31 := Lib.hid zb; have X31 := Lib.hid xb; have O31 := Lib.hid ow
                  clear g31 zb xb ow X Z KRr KS KE
                  go_wp2_with fail
                  refine (alive9_ok _ (HR.out.grown (Lib.grownBy_trans G.out G31.out) (by simp))).mono ?_
                  rintro e w32 ⟨rfl, g32⟩
                  have G32 := Lib.hid (Lib.grownBy_trans G31.out g32); have Z32 := Lib.hid (Z31.out.grown g32 (by simp)); have X32 := Lib.hid (X31.out.grown g32 (by simp))
                  have HWn := Lib.hid (show ({ c' with block := List.replicate 32 0 } : CommitD).wf from ⟨HWc.out.height, HWc.out.round, rfl, HWc.out.seals⟩)
                  have HWt := Lib.hid (show ({ c' with seals := c'.seals ++ [la'] } : CommitD).wf from ⟨HWc.out.height, HWc.out.round, HWc.out.block, fun s hs => by
                    rcases List.mem_append.1 hs with h | h
                    · exact HWc.out.seals s h
                    · rw [List.mem_singleton.1 h]; exact HWc.out.seals _ HLa.out⟩)
                  have CN1 := Check_ok (.slice va ds.length vc) ds chain { c' with block := List.replicate 32 0 } nz w32 (HRD.out.grown (Lib.grownBy_trans G.out G32.out)) HCh.out HWn.out ⟨_, (O.out.grown (Lib.grownBy_trans G57.out G32.out)).mono (Lib.grownBy_trans G57.out G32.out).size, by rw [← HNz.out, HMm.out]; rfl⟩ (Nat.le_trans HNn.out (by decide)) (HR.out.grown (Lib.grownBy_trans G.out G32.out) (by simp)) (Lib.grownBy_trans G.out G32.out).size
                  rw [none_check ds chain _ HRi.out rfl] at CN1
                  have CN1 := Lib.hid CN1
                  have HSv := Lib.hid (show cv.set 34 v13 = commitV c'.height c'.round c'.block v13 from by rw [← HCv.out, commitV_set _ _ _ _ _ HBl.out])
                  have HLt := Lib.hid (show (cv.set 34 v13).length = 35 from by rw [List.length_set]; exact HLn.out)
                  have HRt := Lib.hid (show ∀ W, w32.grownBy W none → ({ c' with seals := c'.seals ++ [la'] } : CommitD).rep W.heap.size W (cv.set 34 v13) from fun W g => by
                    refine ⟨v13, ?_, HSv.out⟩
                    have h1 := (rds_of_own O31.out).grown (Lib.grownBy_trans g32 g)
                    have h2 := h1.mono (Lib.grownBy_trans g32 g).size
                    have e1 : (c'.seals ++ [la']).length = 0 + k + 1 := by rw [List.length_append, HMm.out]; simp
                    have e2 : sealCells (c'.seals ++ [la']) = [] ++ sealCells (c'.seals.drop 0) ++ sealCells [la'] := by rw [sealCells_app, List.drop_zero]; rfl
                    show RdS W.heap.size W v13 (c'.seals ++ [la']).length 3 (sealCells (c'.seals ++ [la']))
                    rw [e1, e2]; exact h2)
                  have CT1 := Lib.hid (fun W (g : w32.grownBy W none) => Check_ok (.slice va ds.length vc) ds chain { c' with seals := c'.seals ++ [la'] } (cv.set 34 v13) W (HRD.out.grown (Lib.grownBy_trans G.out (Lib.grownBy_trans G32.out g))) HCh.out HWt.out (HRt.out W g) (by
                    have h9 := HM30.out
                    show (c'.seals ++ [la']).length ≤ 1000
                    rw [List.length_append, HMm.out]; simp; omega) (HR.out.grown (Lib.grownBy_trans G.out (Lib.grownBy_trans G32.out g)) (by simp)) (Lib.grownBy_trans G.out (Lib.grownBy_trans G32.out g)).size)
                  rw [twice_check ds chain c' HRi.out la' HLa.out] at CT1
                  have c0 := (KB.out _ G32.out).1; have c1 := (KB.out _ G32.out).2
                  clear g32 G31 Z31 X31
                  go_wp2_with (first | (refine wpList_load_part rfl 54 _ rfl z 0 rfl nz _ Z32.out.row Tryd.underlying54 rfl (by rw [HLz.out]; exact sizeCommit) ?_))
                  refine CN1.out.mono ?_
                  rintro e w33 ⟨rfl, g33⟩
                  have G33 := Lib.hid (Lib.grownBy_trans G32.out g33); have X33 := Lib.hid (X32.out.grown g33 (by simp)); have K33 := Lib.hid g33
                  clear g33 c0 c1 Z32 X32 CN1
                  have c0 := (KB.out _ G33.out).1; have c1 := (KB.out _ G33.out).2
                  go_wp2_with (first | (refine wpList_load_part rfl 54 _ rfl t' 0 rfl (cv.set 34 v13) _ X33.out.row Tryd.underlying54 rfl (by rw [HLt.out]; exact sizeCommit) ?_))
                  refine (CT1.out _ K33.out).mono ?_
                  rintro e w34 ⟨rfl, g34⟩
                  have G34 := Lib.hid (Lib.grownBy_trans G33.out g34)
                  clear g34 c0 c1 X33 CT1
                  go_wp2_with fail
                  go_ret
                  exact ⟨rfl, below_g (Lib.grownBy_trans G.out G34.out)⟩

end Go.Proofs.YtfnginmoiecgnaaDoor
