/- The world but for some blocks; 'm[k] += n' on a map that is owned. No program. Plain: what a tally holds, and what a vote that is added does. Steps of regions that draw their order: maps, one cell, a slice of two. No program but for the votes' type. -/
import Derived.Test.YtfnginmoiecgnaaDoorSlc
import Derived.WideKeyEntry
import Derived.Maps.OwnSet
import Derived.Test.YtfnginmoiecgnaaDoorWin
import Derived.Deep.AppendLies
namespace Go.Proofs.YtfnginmoiecgnaaDoor
open Go.RowKit
open Go.Maps (Keyed)
set_option maxRecDepth 100000

theorem below_g {w w' : World} (h : w.grownBy w' none) : Below w.heap.size w w' := ⟨h.os, h.tape, h.output, h.size, fun k hk => h.block k hk (by simp)⟩
/-- w' is w but for the blocks in S, and new ones -/
structure Kp (w w' : World) (S : Nat → Prop) : Prop where
  os : w'.os = w.os
  tape : w'.tape = w.tape
  output : w'.output = w.output
  size : w.heap.size ≤ w'.heap.size
  block : ∀ k, k < w.heap.size → ¬ S k → w'.heap[k]? = w.heap[k]?
theorem Kp.of {w w' : World} {row : Option Nat} {S : Nat → Prop} (h : w.grownBy w' row) (hs : ∀ k, row = some k → k < w.heap.size → S k) : Kp w w' S :=
  ⟨h.os, h.tape, h.output, h.size, fun k hk hn => h.block k hk fun e => hn (hs k e.symm hk)⟩
theorem Kp.still {w w' : World} {S : Nat → Prop} (h : w.grownBy w' none) : Kp w w' S := Kp.of h (by simp)
theorem Kp.refl {w : World} {S : Nat → Prop} : Kp w w S := ⟨rfl, rfl, rfl, Nat.le_refl _, fun _ _ _ => rfl⟩
theorem Kp.trans {w w1 w2 : World} {S T : Nat → Prop} (h : Kp w w1 S) (k : Kp w1 w2 T) (hs : ∀ i, i < w.heap.size → T i → S i) : Kp w w2 S :=
  ⟨k.os.trans h.os, k.tape.trans h.tape, k.output.trans h.output, Nat.le_trans h.size k.size, fun i hi hn => (k.block i (Nat.lt_of_lt_of_le hi h.size) fun t => hn (hs i hi t)).trans (h.block i hi hn)⟩
theorem Kp.mono {w w1 : World} {S T : Nat → Prop} (h : Kp w w1 S) (hs : ∀ i, i < w.heap.size → S i → T i) : Kp w w1 T :=
  ⟨h.os, h.tape, h.output, h.size, fun i hi hn => h.block i hi fun t => hn (hs i hi t)⟩
theorem Kp.add {w w1 w2 : World} {S : Nat → Prop} {row : Option Nat} (h : Kp w w1 S) (k : w1.grownBy w2 row) (hs : ∀ i, row = some i → i < w.heap.size → S i) : Kp w w2 S :=
  h.trans (Kp.of (S := fun i => row = some i) k fun _ e _ => e) fun i hi e => hs i e hi
theorem Kp.grown {w w' : World} {S : Nat → Prop} (h : Kp w w' S) (hs : ∀ i, i < w.heap.size → ¬ S i) : w.grownBy w' none :=
  ⟨h.os, h.tape, h.output, h.size, fun i hi _ => h.block i hi (hs i hi)⟩
theorem Blk.kp {w w' : World} {S : Nat → Prop} {g : Nat} {vs : List Value} {T : TypeId} (h : Blk w g vs T) (hg : Kp w w' S) (hn : ¬ S g) : Blk w' g vs T := (hg.block g h.lt hn).trans h
theorem RowAt.kp {w w' : World} {S : Nat → Prop} {g o : Nat} {cs : List Value} (h : RowAt w g o cs) (hg : Kp w w' S) (hn : ¬ S g) : RowAt w' g o cs := fun j v hj => by
  have hlt := World.block_lt_of_cell? w ⟨g, o + j, none⟩ (h j v hj)
  rw [World.cell?_of_block (hg.block g hlt hn)]
  exact h j v hj
theorem RdS.kp {B n k : Nat} {w w' : World} {v : Value} {cs : List Value} {S : Nat → Prop} (h : RdS B w v n k cs) (hg : Kp w w' S) (hn : ∀ g, v.ownBlock = some g → ¬ S g) : RdS B w' v n k cs := by
  obtain ⟨ao, c, rfl, h2, h3, h4, h5 | ⟨g, o, rfl, hg1, hr1⟩⟩ := h
  · exact ⟨ao, c, rfl, h2, h3, h4, Or.inl h5⟩
  · exact ⟨_, c, rfl, h2, h3, h4, Or.inr ⟨g, o, rfl, hg1, hr1.kp hg (hn g rfl)⟩⟩
theorem ownsMap.kp {H : Type} {P : Program} {k : TypeId} {R : Value → Option (DataW H × List MemPlace)} {w w' : World} {b n : Nat} {D : DataW H} {S : Nat → Prop} (h : w.ownsMap P k R b n D) (hg : Kp w w' S) (hn : ¬ S b) : w'.ownsMap P k R b n D := by
  have hlt := h.lt
  obtain ⟨es, clock, hb, F, hs, hD⟩ := h
  exact ⟨es, clock, (hg.block b hlt hn).trans hb, F, hs, hD⟩
theorem ownsRow.lt {w : World} {B size n : Nat} {e : TypeId} {v : Value} {xs : List Value} (h : w.ownsRow B e size v n xs) {g : Nat} (hg : v.ownBlock = some g) : g < w.heap.size := by
  rcases h.2 with ⟨rfl, _⟩ | ⟨g', cap, cur, rfl, _, hb, _⟩
  · simp [Value.ownBlock] at hg
  · simp [Value.ownBlock] at hg
    subst hg
    exact (Array.getElem?_eq_some_iff.1 hb).1
theorem ownsRow.kp {w w' : World} {B size n : Nat} {e : TypeId} {v : Value} {xs : List Value} {S : Nat → Prop} (h : w.ownsRow B e size v n xs) (hg : Kp w w' S) (hn : ∀ g, v.ownBlock = some g → ¬ S g) : w'.ownsRow B e size v n xs := by
  refine ⟨h.1, ?_⟩
  rcases h.2 with hn0 | ⟨g, cap, cur, rfl, hb, hh, r⟩
  · exact .inl hn0
  · have hlt := (Array.getElem?_eq_some_iff.1 hh).1
    exact .inr ⟨g, cap, cur, rfl, hb, (hg.block g hlt (hn g rfl)).trans hh, r⟩

section
variable {H : Type} {P : Program} {w : World} {t k e : TypeId} {R : Value → Option (DataW H × List MemPlace)} {b n : Nat} {D : DataW H}
theorem entry_own (K : WideMaps.KeyLaw P k) (KK : Keyed P k) (ht : P.underlying t = some (.map k e)) {z : Value} (hz : ∀ u : World, (zeroValue e).run P u = .ok z u) {zd : DataW H} {zp : List MemPlace} (hzd : R z = some (zd, zp))
    (h : w.ownsMap P k R b n D) (hn : n < maxLen) {key : Value} {kl : Lit} (hkey : keyOf P k key = some kl) :
    ∃ v0 st w1, (Instr.mapEntry t (.map (some b)) key).run P w = .ok (.tuple #[v0, .int .i64 st]) w1 ∧ w.grownBy w1 (some b) ∧ (∃ n' D', w1.ownsMap P k R b n' D' ∧ D'.atKey kl zd = D.atKey kl zd) ∧
      ∀ val d ps, R val = some (d, ps) → ∃ w2, (Instr.entryStore t (.map (some b)) (.int .i64 st) val).run P w1 = .ok () w2 ∧ w2.ownsMap P k R b (n + 1) (D.put kl d) ∧ w1.grownBy w2 (some b) := by
  have h0 := h
  have hm := h.isMap
  obtain ⟨es, clock, hb, F, hs, hD⟩ := h
  obtain ⟨v0, st, es1, clock1, hrun, hcase, hst⟩ := Go.WideElems.entry_then_store (R := R) K ht hz hb F hkey
  have hb1 : (Go.ChangeMaps.setBlock w b (.map es1 clock1)).heap[b]? = some (.map es1 clock1) := Go.ChangeMaps.heap_setBlock_same hb _
  have hgr : ∀ o, w.grownBy (Go.ChangeMaps.setBlock w b o) (some b) := fun o => ⟨rfl, rfl, rfl, by simp [Go.ChangeMaps.setBlock], fun i _ hi => Go.ChangeMaps.heap_setBlock_other hb _ (fun e => hi (by rw [e]))⟩
  refine ⟨v0, st, _, hrun, hgr _, ?_, ?_⟩
  · rcases Go.Maps.fit_look false KK ht (hz w) hb F hkey with ⟨_, hno, hat⟩ | ⟨e0, y, hm0, hk0, _⟩
    · have hf : (Instr.findKey k key es.toList).run P w = .ok none w := by
        rcases K.find w hkey es.toList F.keys with ⟨h1, _⟩ | ⟨j, e0, _, h2, h3⟩
        · exact h1
        · exact absurd h3 (hno e0 (List.mem_of_getElem? h2))
      have r1 : (Instr.mapEntry t (.map (some b)) key).run P w = .ok (.tuple #[z, goInt clock]) (Go.ChangeMaps.setBlock w b (.map (es.push ⟨key, z, clock⟩) (clock + 1))) := by
        simp [Instr.mapEntry, run_underlying ht, MapKept.run_getObj_map hb, K.check w false hkey, hf, hz, MapKept.run_setObj_map _ hb, Result.andThen, Go.ChangeMaps.setBlock]
      have r2 : (Instr.mapUpdate t (.map (some b)) key z).run P w = .ok () (Go.ChangeMaps.setBlock w b (.map (es.push ⟨key, z, clock⟩) (clock + 1))) := by
        simp [Instr.mapUpdate, run_underlying ht, MapKept.run_getObj_map hb, K.check w false hkey, hf, MapKept.run_setObj_map _ hb, Result.andThen, Go.ChangeMaps.setBlock]
      obtain ⟨w', r3, o3, _⟩ := h0.store KK ht hn hkey hzd
      have e1 := (Result.ok.inj (r2.symm.trans r3)).2
      have e2 := (Result.ok.inj (r1.symm.trans hrun)).2
      refine ⟨_, _, by rw [← e2, e1]; exact o3, ?_⟩
      rw [Go.Maps.atKey_put_same hm (KK.key hkey), hD, hat]
    · obtain ⟨j, e1, hf, h2, h3⟩ : ∃ j e, (Instr.findKey k key es.toList).run P w = .ok (some (j, e.val)) w ∧ es.toList[j]? = some e ∧ e.key = key := by
        rcases K.find w hkey es.toList F.keys with ⟨_, h1⟩ | h1
        · exact absurd hk0 (h1 e0 hm0)
        · exact h1
      have hj : es[j]? = some e1 := by simpa using h2
      have hsame : es.modify j (fun e => { e with key := key }) = es := by
        apply Array.ext'
        rw [Array.toList_modify, Go.ChangeMaps.modify_eq_set _ _ _ _ h2]
        have : ({ e1 with key := key } : MapEntry) = e1 := by rw [← h3]
        rw [this]
        exact Go.WideElems.set_self _ _ _ h2
      have r1 : (Instr.mapEntry t (.map (some b)) key).run P w = .ok (.tuple #[e1.val, goInt e1.born]) (Go.ChangeMaps.setBlock w b (.map es clock)) := by
        simp [Instr.mapEntry, run_underlying ht, MapKept.run_getObj_map hb, K.check w false hkey, hf, hj, h3, K.stays w hkey, hsame, MapKept.run_setObj_map _ hb, Result.andThen, Go.ChangeMaps.setBlock]
      have e2 := (Result.ok.inj (r1.symm.trans hrun)).2
      refine ⟨n, D, ?_, rfl⟩
      rw [← e2]
      exact ⟨es, clock, Go.ChangeMaps.heap_setBlock_same hb _, F, hs, hD⟩
  · intro val d ps hv
    obtain ⟨es', clock', r1, r2⟩ := hst _ val hb1
    obtain ⟨w', r3, o3, _⟩ := h0.store KK ht hn hkey hv
    have e1 := (Result.ok.inj (r2.symm.trans r3)).2
    have e2 : Go.ChangeMaps.setBlock (Go.ChangeMaps.setBlock w b (.map es1 clock1)) b (.map es' clock') = Go.ChangeMaps.setBlock w b (.map es' clock') := by simp [Go.ChangeMaps.setBlock]
    refine ⟨_, r1, by rw [e2, e1]; exact o3, ⟨rfl, rfl, rfl, by simp [Go.ChangeMaps.setBlock], fun i _ hi => Go.ChangeMaps.heap_setBlock_other hb1 _ (fun e => hi (by rw [e]))⟩⟩
end

/-- a tally's vote, with another's block, key and signature -/
def VoteD.like (of v : VoteD) : VoteD := { of with block := v.block, key := v.key, r := v.r, s := v.s }
theorem like_wf {of v : VoteD} (h : of.wf) (hv : v.wf) : (of.like v).wf := ⟨h.chain, h.height, h.round, h.type, hv.block, hv.key, hv.r, hv.s⟩

/-- a tally, plain: its set, for which votes, those that count, those that were a second one -/
structure TD where
  set : List ValD
  of : VoteD
  cnt : List VoteD
  both : List VoteD
def powsL (ds : List ValD) (l : List VoteD) : Int := (l.map fun u => powL u.key ds).sum
def findK (l : List VoteD) (k : Int) : Option VoteD := l.find? fun u => decide (u.key = k)
def forX (l : List VoteD) (x : List UInt8) : List VoteD := l.filter fun u => decide (u.block = x)
def TD.pow (T : TD) (x : List UInt8) : Int := powsL T.set (forX T.cnt x)
def TD.all (T : TD) : Int := powsL T.set T.cnt
def TD.fits (T : TD) (v : VoteD) : Bool := VEq v.cells (T.of.like v).cells
def TD.add (T : TD) (v : VoteD) : TD × Int :=
  if T.fits v = false then (T, 91) else if powL v.key T.set = 0 then (T, 92) else if signedB v = false then (T, 93) else
  match findK T.cnt v.key with
  | some o => if o.block = v.block then (T, 0) else ({ T with both := T.both ++ [o, v] }, 94)
  | none => ({ T with cnt := T.cnt ++ [v] }, 0)
structure TD.ok (T : TD) : Prop where
  right : rightL T.set = true
  of : T.of.wf
  cnt : ∀ u ∈ T.cnt, u.wf
  both : ∀ u ∈ T.both, u.wf
  keys : (T.cnt.map (·.key)).Nodup
  pos : ∀ u ∈ T.cnt, powL u.key T.set ≠ 0

theorem sumGo_sum : ∀ (ds : List ValD) (n m : Int), n ≤ 1125899906842624 → sumGo n ds = some m → (∀ d ∈ ds, 1 ≤ d.power) ∧ m = n + (ds.map (·.power)).sum ∧ m ≤ 1125899906842624
  | [], n, m, h0, h => by simp only [sumGo, Option.some.injEq] at h; subst h; simp; exact h0
  | d :: l, n, m, h0, h => by
    unfold sumGo at h
    split at h
    · cases h
    split at h
    · cases h
    obtain ⟨h1, h2, h3⟩ := sumGo_sum l _ m (by omega) h
    refine ⟨fun x hx => ?_, by rw [h2, List.map_cons, List.sum_cons]; omega, h3⟩
    rcases List.mem_cons.1 hx with rfl | hx
    · omega
    · exact h1 x hx
theorem right_sum {ds : List ValD} (h : rightL ds = true) : (∀ d ∈ ds, 1 ≤ d.power) ∧ totalL ds = (ds.map (·.power)).sum ∧ totalL ds ≤ 1125899906842624 := by
  have h0 := h
  unfold rightL at h
  simp only [Bool.and_eq_true] at h
  obtain ⟨m, hm⟩ := Option.isSome_iff_exists.1 h.1.1.1
  have hm' := hm
  unfold sumL at hm
  obtain ⟨h1, h2, h3⟩ := sumGo_sum ds 0 m (by decide) hm
  have e : totalL ds = m := by unfold totalL; rw [if_pos h0, hm']; rfl
  exact ⟨h1, by rw [e, h2]; omega, by rw [e]; exact h3⟩
theorem powL_nonneg {ds : List ValD} (h : ∀ d ∈ ds, 1 ≤ d.power) (k : Int) : 0 ≤ powL k ds := by
  induction ds with
  | nil => simp [powL]
  | cons d l ih =>
    unfold powL
    split
    · have := h d (by simp); omega
    · exact ih fun x hx => h x (by simp [hx])
theorem powsL_nonneg {ds : List ValD} (h : ∀ d ∈ ds, 1 ≤ d.power) : ∀ l : List VoteD, 0 ≤ powsL ds l
  | [] => by simp [powsL]
  | u :: l => by
    have := powL_nonneg h u.key; have := powsL_nonneg h l
    simp only [powsL, List.map_cons, List.sum_cons] at *; omega
theorem powsL_append (ds : List ValD) (a b : List VoteD) : powsL ds (a ++ b) = powsL ds a + powsL ds b := by simp [powsL]
theorem powsL_filter {ds : List ValD} (h : ∀ d ∈ ds, 1 ≤ d.power) (f : VoteD → Bool) : ∀ l : List VoteD, powsL ds (l.filter f) ≤ powsL ds l
  | [] => by simp
  | u :: l => by
    have h1 := powL_nonneg h u.key; have h2 := powsL_filter h f l
    cases hf : f u <;> simp [powsL, hf] at * <;> omega
theorem keys_split (d : ValD) (l : List ValD) : ∀ ks : List Int, ks.Nodup →
    (ks.map fun k => powL k (d :: l)).sum = (if d.key ∈ ks then d.power else 0) + ((ks.filter fun k => decide (d.key ≠ k)).map fun k => powL k l).sum
  | [], _ => by simp
  | k :: ks, hn => by
    rw [List.nodup_cons] at hn
    have ih := keys_split d l ks hn.2
    rw [List.map_cons, List.sum_cons, ih]
    by_cases hk : d.key = k
    · subst hk
      rw [if_neg hn.1, if_pos (by simp), List.filter_cons_of_neg (by simp)]
      unfold powL; rw [if_pos rfl]; omega
    · have e : powL k (d :: l) = powL k l := by rw [powL, if_neg hk]
      have e2 : (d.key ∈ k :: ks) ↔ d.key ∈ ks := by simp [hk]
      rw [List.filter_cons_of_pos (by simpa using hk), List.map_cons, List.sum_cons, e]
      simp only [e2]
      omega
theorem keys_sum : ∀ (ds : List ValD), (∀ d ∈ ds, 1 ≤ d.power) → ∀ ks : List Int, ks.Nodup → (ks.map fun k => powL k ds).sum ≤ (ds.map (·.power)).sum
  | [], _, ks, _ => by
    have : ∀ ks : List Int, (ks.map fun k => powL k []).sum = 0 := fun ks => by induction ks with
      | nil => rfl
      | cons k l ih => rw [List.map_cons, List.sum_cons, ih]; rfl
    rw [this]; simp
  | d :: l, h, ks, hn => by
    rw [keys_split d l ks hn, List.map_cons, List.sum_cons]
    have := keys_sum l (fun x hx => h x (by simp [hx])) _ (hn.sublist (List.filter_sublist (p := fun k => decide (d.key ≠ k))))
    have := h d (by simp)
    split <;> omega
theorem pows_total {ds : List ValD} (h : rightL ds = true) {l : List VoteD} (hn : (l.map (·.key)).Nodup) : powsL ds l ≤ totalL ds := by
  obtain ⟨h1, h2, _⟩ := right_sum h
  have := keys_sum ds h1 _ hn
  rw [h2]
  simpa [powsL, List.map_map, Function.comp_def] using this
theorem findK_none {l : List VoteD} {k : Int} (h : findK l k = none) : k ∉ l.map (·.key) := by
  intro hm
  obtain ⟨u, hu, rfl⟩ := List.mem_map.1 hm
  have := List.find?_eq_none.1 h u hu
  simp at this
theorem findK_some {l : List VoteD} {k : Int} {o : VoteD} (h : findK l k = some o) : o ∈ l ∧ o.key = k := by
  refine ⟨List.mem_of_find?_eq_some h, ?_⟩
  have := List.find?_some h
  simpa using this
theorem nodup_snoc {l : List VoteD} (hn : (l.map (·.key)).Nodup) {v : VoteD} (h : findK l v.key = none) : ((l ++ [v]).map (·.key)).Nodup := by
  rw [List.map_append, List.nodup_append]
  refine ⟨hn, by simp, fun a ha b hb e => ?_⟩
  simp at hb
  subst hb e
  exact findK_none h ha
theorem findK_snoc {l : List VoteD} {v : VoteD} (k : Int) (h : findK l v.key = none) : findK (l ++ [v]) k = if v.key = k then some v else findK l k := by
  unfold findK at *
  rw [List.find?_append]
  by_cases hk : v.key = k
  · subst hk; rw [h, if_pos rfl]; simp
  · rw [if_neg hk]; simp [hk]
theorem TD.add_ok {T : TD} (h : T.ok) {v : VoteD} (hv : v.wf) : (T.add v).1.ok := by
  unfold TD.add
  split
  · exact h
  split
  · exact h
  split
  · exact h
  rename_i _ hp _
  split
  · rename_i o ho
    split
    · exact h
    · refine ⟨h.right, h.of, h.cnt, fun u hu => ?_, h.keys, h.pos⟩
      simp only [List.mem_append, List.mem_cons, List.not_mem_nil, or_false] at hu
      rcases hu with hu | rfl | rfl
      · exact h.both u hu
      · exact h.cnt _ (findK_some ho).1
      · exact hv
  · rename_i hn
    refine ⟨h.right, h.of, fun u hu => ?_, h.both, nodup_snoc h.keys hn, fun u hu => ?_⟩ <;> simp only [List.mem_append, List.mem_cons, List.not_mem_nil, or_false] at hu <;> rcases hu with hu | rfl
    · exact h.cnt u hu
    · exact hv
    · exact h.pos u hu
    · exact hp
/-- the powers stay small -/
theorem TD.small {T : TD} (h : T.ok) {v : VoteD} (hn : findK T.cnt v.key = none) (x : List UInt8) :
    0 ≤ T.pow x ∧ 0 ≤ T.all ∧ 0 ≤ powL v.key T.set ∧ T.pow x + powL v.key T.set ≤ 1125899906842624 ∧ T.all + powL v.key T.set ≤ 1125899906842624 := by
  obtain ⟨h1, h2, h3⟩ := right_sum h.right
  have a1 := powsL_nonneg h1 (forX T.cnt x); have a2 := powsL_nonneg h1 T.cnt; have a3 := powL_nonneg h1 v.key
  have a4 := pows_total h.right (nodup_snoc h.keys hn)
  rw [powsL_append] at a4
  have a5 : powsL T.set [v] = powL v.key T.set := by simp [powsL]
  have a6 := powsL_filter h1 (fun u => decide (u.block = x)) T.cnt
  refine ⟨a1, a2, a3, ?_, ?_⟩
  · unfold TD.pow forX; omega
  · unfold TD.all; omega
theorem pow_snoc (ds : List ValD) (l : List VoteD) (v : VoteD) (x : List UInt8) : powsL ds (forX (l ++ [v]) x) = powsL ds (forX l x) + if v.block = x then powL v.key ds else 0 := by
  unfold forX
  rw [List.filter_append, powsL_append]
  congr 1
  by_cases h : v.block = x <;> simp [powsL, h]

/-! the maps -/
def VotesR (D : DataW Value) (l : List VoteD) : Prop := ∀ k, u64R k → Maps.has D (.int .u64 k) = (findK l k).isSome ∧ D.atKey (.int .u64 k) (.held (.agg ZVote.toArray)) = .held (.agg (((findK l k).map VoteD.cells).getD ZVote).toArray)
def SumsR (E : DataW Value) (ds : List ValD) (l : List VoteD) : Prop :=
  (∀ x, x.length = 32 → E.atKey (hkL x) (.lit (.int .i64 0)) = .lit (.int .i64 (powsL ds (forX l x)))) ∧ (∀ x, x.length = 32 → Maps.has E (hkL x) = decide (∃ u ∈ l, u.block = x)) ∧ ∀ kl, Maps.has E kl = true → ∃ u ∈ l, kl = hkL u.block
theorem votesR_nil : VotesR (.map []) [] := fun _k _ => ⟨rfl, rfl⟩
theorem sumsR_nil (ds : List ValD) : SumsR (.map []) ds [] := ⟨fun x _ => rfl, fun x _ => by simp [Maps.has], fun kl h => by simp [Maps.has] at h⟩
theorem votesR_put {D : DataW Value} {l : List VoteD} (h : VotesR D l) (hm : Maps.IsMap D) {v : VoteD} (hv : v.wf) (hn : findK l v.key = none) : VotesR (D.put (.int .u64 v.key) (.held (.agg v.cells.toArray))) (l ++ [v]) := by
  intro k hk
  have hkl := key_law.key (u64_key v.key hv.key)
  rw [findK_snoc k hn]
  by_cases e : v.key = k
  · subst e
    rw [if_pos rfl]
    exact ⟨Maps.has_put_same hm hkl _, Maps.atKey_put_same hm hkl _ _⟩
  · rw [if_neg e]
    have ne : (Lit.int .u64 k) ≠ .int .u64 v.key := fun h => e (by injection h with _ h; exact h.symm)
    rw [Maps.has_put_other ne, Maps.atKey_put_other ne]
    exact h k hk
theorem sumsR_put {E : DataW Value} {ds : List ValD} {l : List VoteD} (h : SumsR E ds l) (hm : Maps.IsMap E) {v : VoteD} (hv : v.wf) :
    SumsR (E.put (hkL v.block) (.lit (.int .i64 (powsL ds (forX l v.block) + powL v.key ds)))) ds (l ++ [v]) := by
  have hkl := hash_keyed.key (hash_key v.block hv.block)
  obtain ⟨h1, h2, h3⟩ := h
  refine ⟨fun x hx => ?_, fun x hx => ?_, fun kl hk => ?_⟩
  · rw [pow_snoc]
    by_cases e : v.block = x
    · subst e
      rw [Maps.atKey_put_same hm hkl, if_pos rfl]
    · rw [Maps.atKey_put_other (fun h => e (hkL_inj hv.block hx h.symm)), h1 x hx, if_neg e, Int.add_zero]
  · by_cases e : v.block = x
    · subst e
      rw [Maps.has_put_same hm hkl]
      exact (decide_eq_true ⟨v, by simp, rfl⟩).symm
    · rw [Maps.has_put_other (fun h => e (hkL_inj hv.block hx h.symm)), h2 x hx]
      congr 1
      simp [e]
  · by_cases e : kl = hkL v.block
    · exact ⟨v, by simp, e⟩
    · rw [Maps.has_put_other e] at hk
      obtain ⟨u, hu, e⟩ := h3 kl hk
      exact ⟨u, by simp [hu], e⟩

/-- a tally in memory -/
structure TlRep (w : World) (p bm bs : Nat) (sv tv : Value) (T : TD) : Prop where
  blk : Blk w p (tlCells sv (totalL T.set) T.of bm bs T.all tv) 84
  set : RdS w.heap.size w sv T.set.length 2 (setCells T.set)
  votes : ∃ n D, n ≤ T.cnt.length ∧ w.ownsMap Tryd.prog 22 heldR bm n D ∧ VotesR D T.cnt
  sums : ∃ n E, n ≤ T.cnt.length ∧ w.ownsMap Tryd.prog 25 sumR bs n E ∧ SumsR E T.set T.cnt
  twice : w.ownsRow 0 29 39 tv T.both.length (T.both.flatMap VoteD.cells)
  pm : bm ≠ p
  ps : bs ≠ p
  ms : bm ≠ bs
  sp : ∀ g, sv.ownBlock = some g → g ≠ p ∧ g ≠ bm ∧ g ≠ bs ∧ tv.ownBlock ≠ some g
  tp : ∀ g, tv.ownBlock = some g → g ≠ p ∧ g ≠ bm ∧ g ≠ bs
/-- the blocks of a tally that turn -/
def TlB (p bm bs : Nat) (tv : Value) (i : Nat) : Prop := i = p ∨ i = bm ∨ i = bs ∨ tv.ownBlock = some i
theorem TlRep.at_ {w : World} {p bm bs : Nat} {sv tv : Value} {T : TD} (h : TlRep w p bm bs sv tv T) : TlAt w p T.set (totalL T.set) T.of bm bs T.all tv :=
  ⟨⟨sv, h.blk, h.set, fun g hg => (h.sp g hg).1⟩, h.pm, h.ps, h.ms⟩
theorem TlRep.kp {w w' : World} {p bm bs : Nat} {sv tv : Value} {T : TD} {S : Nat → Prop} (h : TlRep w p bm bs sv tv T) (hg : Kp w w' S) (h1 : ¬ S p) (h2 : ¬ S bm) (h3 : ¬ S bs) (h4 : ∀ g, sv.ownBlock = some g → ¬ S g) (h5 : ∀ g, tv.ownBlock = some g → ¬ S g) : TlRep w' p bm bs sv tv T := by
  obtain ⟨a, b, ⟨n, D, c1, c2, c3⟩, ⟨m, E, d1, d2, d3⟩, e, f⟩ := h
  exact ⟨a.kp hg h1, (b.kp hg h4).mono hg.size, ⟨n, D, c1, ownsMap.kp c2 hg h2, c3⟩, ⟨m, E, d1, ownsMap.kp d2 hg h3, d3⟩, ownsRow.kp e hg h5, f, ‹_›, ‹_›, ‹_›, ‹_›⟩
theorem TlRep.grown {w w' : World} {p bm bs : Nat} {sv tv : Value} {T : TD} (h : TlRep w p bm bs sv tv T) (hg : w.grownBy w' none) : TlRep w' p bm bs sv tv T :=
  h.kp (S := fun _ => False) (Kp.still hg) id id id (fun _ _ => id) (fun _ _ => id)

section
variable {P : Program} {o : Oper} {a : Act} {w : World} {K : Act → World → Prop} {Q : Exit → Act → World → Prop}
theorem wp_store_cell (ty : TypeId) (x y : Operand) (ho : o.op = .store ty x y)
    (g k : Nat) (hx : a.eval x = .pointer (some ⟨g, k, none⟩)) (v : Value) (hy : a.eval y = v) (hv : v.oneCell' = true) (cur : List Value) (T : TypeId) (hb : Blk w g cur T) (hk : k < cur.length)
    (hi : (P.info? ty).map (·.size) = some 1)
    (h : ∀ w2, w.grownBy w2 (some g) → w2.heap.size = w.heap.size → Blk w2 g (cur.set k v) T → K (a.put o.dst undef) w2) : o.wp P a w K Q := by
  have hst := run_storeCells_at (P := P) g k T [v] 0 cur.toArray w hb (by simp; omega) (by simpa using hv)
  have hc : v.cells = #[v] := by cases v <;> first | rfl | cases hv
  have e : cur.take k ++ [v] ++ cur.drop (k + 1) = cur.set k v := by rw [List.set_eq_take_append_cons_drop, if_pos hk]; simp
  have hrun : (storeVar ty ⟨g, k, none⟩ v).run P w = .ok () (w.setRow g (cur.set k v).toArray) := by
    rw [← e]
    cases hq : P.info? ty with
    | none => simp [hq] at hi
    | some i =>
      have hs : i.size = 1 := by simpa [hq] using hi
      simpa [storeVar, Sem.run_bind, sizeOf, typeInfo, hq, hs, hc] using hst
  unfold Oper.wp execOp
  simp only [ho, hx, hy, Instr.storeAt, Instr.sureAddr, Sem.run_bind, Sem.run_pure, Result.andThen_ok, hrun]
  refine h _ ⟨rfl, rfl, rfl, by simp, fun j _ hj => setRow_other w g j _ (by simpa using hj)⟩ (by simp) ?_
  exact setRow_heap w g cur.toArray _ T (0, 0) hb
theorem wp_yields {v : Value} (hrun : (execOp a.eval o).run P w = .ok (.value v) w) (h : K (a.put o.dst v) w) : o.wp P a w K Q := by
  unfold Oper.wp
  rw [hrun]
  exact h
theorem wp_lookup (t : TypeId) (m x : Operand) (c : Bool) (ho : o.op = .lookup t m x c) {mv kv u : Value} (hm : a.eval m = mv) (hx : a.eval x = kv) (hrun : (Instr.lookup t mv kv c).run P w = .ok u w) (h : K (a.put o.dst u) w) : o.wp P a w K Q := by
  refine wp_yields (v := u) ?_ h
  unfold execOp
  simp only [ho, hm, hx, Sem.run_bind, Sem.run_pure, Result.andThen_ok, hrun]
theorem run_lookup_op (t : TypeId) (m x : Operand) (c : Bool) (ho : o.op = .lookup t m x c) {mv kv u : Value} (hm : a.eval m = mv) (hx : a.eval x = kv) (hrun : (Instr.lookup t mv kv c).run P w = .ok u w) : (execOp a.eval o).run P w = .ok (.value u) w := by
  unfold execOp
  simp only [ho, hm, hx, Sem.run_bind, Sem.run_pure, Result.andThen_ok, hrun]
theorem wpList_store_cellB {ops : Array Oper} {rest : List Oper} {Q : Exit → Act → World → Prop} (hgd : Region.wanted o (yielded ops a.tmps) = true) (ty : TypeId) (x y : Operand) (ho : o.op = .store ty x y)
    (g k : Nat) (hx : a.eval x = .pointer (some ⟨g, k, none⟩)) (v : Value) (hy : a.eval y = v) (hv : v.oneCell' = true) (cur : List Value) (T : TypeId) (hb : Blk w g cur T) (hk : k < cur.length)
    (hi : (P.info? ty).map (·.size) = some 1)
    (h : ∀ w2, w.grownBy w2 (some g) → w2.heap.size = w.heap.size → Blk w2 g (cur.set k v) T → wpList P ops Q rest (a.put o.dst undef) w2) : wpList P ops Q (o :: rest) a w :=
  wpList_wanted hgd fun _ hK => wp_store_cell ty x y ho g k hx v hy hv cur T hb hk hi fun w2 g2 s2 b2 => hK _ _ (h w2 g2 s2 b2)
theorem wp_mapEntry (t : TypeId) (m x : Operand) (ho : o.op = .mapEntry t m x) {mv kv u : Value} {w1 : World} (hm : a.eval m = mv) (hx : a.eval x = kv) (hrun : (Instr.mapEntry t mv kv).run P w = .ok u w1) (h : K (a.put o.dst u) w1) : o.wp P a w K Q := by
  unfold Oper.wp execOp
  simp only [ho, hm, hx, Sem.run_bind, Sem.run_pure, Result.andThen_ok, hrun]
  exact h
theorem wp_entryStore (t : TypeId) (m s x : Operand) (ho : o.op = .entryStore t m s x) {mv sv xv : Value} {w1 : World} (hm : a.eval m = mv) (hs : a.eval s = sv) (hx : a.eval x = xv) (hrun : (Instr.entryStore t mv sv xv).run P w = .ok () w1) (h : K (a.put o.dst undef) w1) : o.wp P a w K Q := by
  unfold Oper.wp execOp
  simp only [ho, hm, hs, hx, Sem.run_bind, Sem.run_pure, Result.andThen_ok, hrun]
  exact h
theorem wp_mapUpdate (t : TypeId) (m k x : Operand) (ho : o.op = .mapUpdate t m k x) {mv kv xv : Value} {w1 : World} (hm : a.eval m = mv) (hk : a.eval k = kv) (hx : a.eval x = xv) (hrun : (Instr.mapUpdate t mv kv xv).run P w = .ok () w1) (h : K (a.put o.dst undef) w1) : o.wp P a w K Q := by
  unfold Oper.wp execOp
  simp only [ho, hm, hk, hx, Sem.run_bind, Sem.run_pure, Result.andThen_ok, hrun]
  exact h

theorem fold_set (off : Nat) : ∀ (vs : List Value) (j0 : Nat) (cells : Array Value), off + j0 + vs.length ≤ cells.size →
    ((vs.zipIdx j0).foldl (fun cs (c, j) => cs.setIfInBounds (off + j) c) cells).toList = cells.toList.take (off + j0) ++ vs ++ cells.toList.drop (off + j0 + vs.length)
  | [], j0, cells, _ => by simp
  | c :: vs, j0, cells, h => by
    have hlt : off + j0 < cells.size := by simp at h; omega
    have ih := fold_set off vs (j0 + 1) (cells.setIfInBounds (off + j0) c) (by simp at h ⊢; omega)
    rw [List.zipIdx_cons, List.foldl_cons, ih, Array.toList_setIfInBounds]
    have e1 : (cells.toList.set (off + j0) c).take (off + (j0 + 1)) = cells.toList.take (off + j0) ++ [c] := by
      rw [← Nat.add_assoc, List.take_add_one, List.take_set_of_le (by omega), List.getElem?_set_self (by simpa using hlt)]
      rfl
    have e2 : (cells.toList.set (off + j0) c).drop (off + (j0 + 1) + vs.length) = cells.toList.drop (off + j0 + (c :: vs).length) := by
      rw [List.drop_set_of_lt (by omega)]
      congr 1; simp; omega
    rw [e1, e2]
    simp
theorem fill_one (place : Nat → Option (Nat × Nat)) (i off : Nat) (vs : List Value) (cells : Array Value) (rest : List (Nat × Value)) (hp : place i = some (off, vs.length)) (hl : off + vs.length ≤ cells.size) :
    Instr.fill place cells ((i, .agg vs.toArray) :: rest) = Instr.fill place (cells.toList.take off ++ vs ++ cells.toList.drop (off + vs.length)).toArray rest := by
  conv => lhs; unfold Instr.fill
  rw [hp]
  have hc : (Value.agg vs.toArray).cells = vs.toArray := rfl
  have hn : ¬ off + vs.length > cells.size := by omega
  have e := fold_set off vs 0 cells (by omega)
  simp only [hc, List.size_toArray, ne_eq, not_true, decide_false, Bool.false_or, decide_eq_true_eq, if_neg hn]
  have e2 : (vs.toArray.zipIdx.foldl (fun cs (c, j) => cs.setIfInBounds (off + j) c) cells) = (cells.toList.take off ++ vs ++ cells.toList.drop (off + vs.length)).toArray := by
    apply Array.ext'
    rw [← Array.foldl_toList]
    simpa using e
  rw [e2]
theorem run_two (t e : TypeId) (ht : P.underlying t = some (.slice e)) (Z xs ys : List Value) (k : Nat) (hk : 0 < k) (hk2 : k ≤ 1000) (hz : (P.info? e).map (fun i => (i.zero.map (fun v => v.cells), i.size)) = some (some Z.toArray, k)) (hZ : Z.length = k) (hx : xs.length = k) (hy : ys.length = k) :
    (Instr.buildSlice t 2 #[(0, .agg xs.toArray), (1, .agg ys.toArray)]).run P w = .ok (.slice (some ⟨w.heap.size, 0, none⟩) 2 2) (w.alloc (.cells (xs ++ ys).toArray e)) := by
  cases hq : P.info? e with
  | none => simp [hq] at hz
  | some i =>
    cases hv : i.zero with
    | none => simp [hq, hv] at hz
    | some v =>
      have hc : v.cells = Z.toArray ∧ i.size = k := by simpa [hq, hv] using hz
      have hs : i.size = k := hc.2
      have e1 : ¬ 2 * k > 2 ^ 24 := by omega
      have e2 : ¬ 2 * k = 0 := by omega
      have f : Instr.fill (fun j => some (j * k, k)) ((Array.range (2 * k)).map (Z.toArray[· % Z.toArray.size]!)) [(0, .agg xs.toArray), (1, .agg ys.toArray)] = some (xs ++ ys).toArray := by
        generalize hM : (Array.range (2 * k)).map (Z.toArray[· % Z.toArray.size]!) = M
        have hM2 : M.size = 2 * k := by rw [← hM]; simp
        rw [fill_one _ 0 0 xs M _ (by rw [hx, Nat.zero_mul]) (by omega)]
        rw [fill_one _ 1 k ys _ _ (by rw [hy, Nat.one_mul]) (by simp; omega)]
        unfold Instr.fill
        congr 2
        simp only [List.take_zero, List.nil_append, Nat.zero_add]
        have hl : (xs ++ M.toList.drop xs.length).length = 2 * k := by simp; omega
        rw [List.take_left' hx, List.drop_eq_nil_of_le (by rw [hl]; omega), List.append_nil]
      have hsz : (sizeOf e).run P w = .ok k w := by simp [sizeOf, typeInfo, hq, hs, Sem.run_bind]
      have hzr : (zeroValue e).run P w = .ok v w := by simp [zeroValue, typeInfo, hq, hv, Sem.run_bind]
      unfold Instr.buildSlice
      simp only [Sem.run_bind, run_underlying ht, Result.andThen_ok, hsz, gt_iff_lt]
      rw [if_neg (by omega), if_neg (by omega)]
      simp only [Sem.run_bind, hzr, Result.andThen_ok, Sem.run_pure, hc.1, f]
      rfl
theorem wp_two (t e : TypeId) (x y : Operand) (ho : o.op = .buildSlice t 2 #[(0, x), (1, y)]) (ht : P.underlying t = some (.slice e)) (Z xs ys : List Value) (k : Nat) (hk : 0 < k) (hk2 : k ≤ 1000) (hz : (P.info? e).map (fun i => (i.zero.map (fun v => v.cells), i.size)) = some (some Z.toArray, k)) (hZ : Z.length = k) (hx : xs.length = k) (hy : ys.length = k)
    (hxe : a.eval x = .agg xs.toArray) (hye : a.eval y = .agg ys.toArray)
    (h : ∀ w2, Blk w2 w.heap.size (xs ++ ys) e → w.grownBy w2 none → w2.heap.size = w.heap.size + 1 → K (a.put o.dst (.slice (some ⟨w.heap.size, 0, none⟩) 2 2)) w2) : o.wp P a w K Q := by
  have hrun := run_two (w := w) t e ht Z xs ys k hk hk2 hz hZ hx hy
  unfold Oper.wp execOp
  simp only [ho, hxe, hye, List.map_toArray, List.map_cons, List.map_nil, Sem.run_bind, Sem.run_pure, Result.andThen_ok, hrun]
  exact h _ (Blk.new w (xs ++ ys) e) (World.grownBy_alloc w _ none) (by simp)
theorem wp_load_cell (ty : TypeId) (x : Operand) (ho : o.op = .load ty x) (g k : Nat) (hx : a.eval x = .pointer (some ⟨g, k, none⟩)) {v : Value} (hrun : (loadVar ty ⟨g, k, none⟩).run P w = .ok v w) (h : K (a.put o.dst v) w) : o.wp P a w K Q := by
  refine wp_yields (v := v) ?_ h
  unfold execOp
  simp only [ho, hx, Instr.loadAt, Instr.sureAddr, Sem.run_bind, Sem.run_pure, Result.andThen_ok, hrun]
end

theorem voteInfo : ∃ i, Tryd.prog.info? 29 = some i ∧ i.zero = some (.agg ZVote.toArray) ∧ i.size = 39 ∧ i.bytes = 96 := by
  have h : (Tryd.prog.info? 29).map (fun i => (i.zero, i.size, i.bytes)) = some (some (.agg ZVote.toArray), 39, 96) := by kernel_rfl
  cases hq : Tryd.prog.info? 29 with
  | none => rw [hq] at h; cases h
  | some i =>
    have h2 : (i.zero, i.size, i.bytes) = (some (.agg ZVote.toArray), 39, 96) := by simpa [hq] using h
    injection h2 with h2 h3; injection h3 with h3 h4
    exact ⟨i, rfl, h2, h3, h4⟩
theorem tl_set {sv : Value} {tot : Int} {of : VoteD} {bm bs : Nat} {all : Int} {tv : Value} (hv : of.wf) (i : Nat) (x : Value) : (tlCells sv tot of bm bs all tv).set (41 + i) x = [sv, .int .i64 tot] ++ of.cells ++ ([Value.map (some bm), .map (some bs), .int .i64 all, tv].set i x) := by
  have e : tlCells sv tot of bm bs all tv = ([sv, .int .i64 tot] ++ of.cells) ++ [.map (some bm), .map (some bs), .int .i64 all, tv] := rfl
  have hl : ([sv, .int .i64 tot] ++ of.cells).length = 41 := by simp [VoteD.cells_length of hv]
  rw [e, List.set_append_right _ _ (by rw [hl]; omega), hl]
  congr 2; omega
/-- 'v, ok := m[k]' in the map of votes -/
theorem held_look {w : World} {bm n : Nat} {D : DataW Value} (h : w.ownsMap Tryd.prog 22 heldR bm n D) {k : Int} (hk : u64R k) {isS : Bool} (hh : Maps.has D (.int .u64 k) = isS) {cs : List Value}
    (hat : D.atKey (.int .u64 k) (.held (.agg ZVote.toArray)) = .held (.agg cs.toArray)) : (Instr.lookup 81 (.map (some bm)) (.int .u64 k) true).run Tryd.prog w = .ok (.tuple #[.agg cs.toArray, .bool isS]) w := by
  have hz : (zeroValue 29).run Tryd.prog w = .ok (.agg ZVote.toArray) w := by
    have : (Tryd.prog.info? 29).map (fun i => i.zero) = some (some (.agg ZVote.toArray)) := by kernel_rfl
    cases hq : Tryd.prog.info? 29 with
    | none => simp [hq] at this
    | some i =>
      have h2 : i.zero = some (.agg ZVote.toArray) := by simpa [hq] using this
      simp [zeroValue, typeInfo, hq, h2]
  obtain ⟨v, ps, hrun, hv⟩ := h.look_ok key_law Tryd.underlying81 hz (show heldR _ = some (.held _, []) from rfl) (u64_key k hk)
  rw [hat] at hv
  unfold heldR at hv
  injection hv with hv; injection hv with hv _; injection hv with hv
  rw [hrun, hv, hh]

theorem step_wantedG {P : Program} {ops : Array Oper} {o : Oper} {a : Act} {w : World} {K : Act → World → Prop} {Q : Exit → Act → World → Prop} {E : Prop} (hw : Region.wanted o (yielded ops a.tmps) = true) (h : o.wp P a w K Q) :
    if Region.wanted o (yielded ops a.tmps) = true then Oper.wp P o a w K Q else E := by
  rw [if_pos hw]
  exact h
theorem yieldsIf_eql_flat {P : Program} {ops : Array Oper} {S : World → Prop} {o : Oper} {a : Act} (hgd : Region.wanted o (yielded ops a.tmps) = true) (t u : TypeId) (x y : Operand) (ho : o.op = .binOp .eql t x y u)
    (xs ys ks : List Value) (hx : a.eval x = .agg xs.toArray) (hy : a.eval y = .agg ys.toArray) (h : flat P 20 t = some ks) (fx : Fits ks xs = true) (fy : Fits ks ys = true)
    (hd : (P.underlying t).map (fun d => match d with | .struct _ | .array _ _ => true | _ => false) = some true) (hm : P.eqGuardType P.depth t = false) {b : Bool} (hb : VEq xs ys = b) : YieldsIf P ops S o (.bool b) a :=
  .inl ⟨hgd, fun w' _ => by
    unfold execOp
    simp only [ho, hx, hy, Sem.run_bind, Sem.run_pure, Result.andThen_ok, run_eqGuard_agg w' .eql t x y xs.toArray ys.toArray hm, (run_eql_flat h xs ys w' fx fy hd).1, hb]⟩

end Go.Proofs.YtfnginmoiecgnaaDoor
