/- What one chain knows of another, plainly: what is taken in, blamed, told; App hashes by their heights, as a map holds them. No program. Things in memory, side by side: a walk's own blocks, and others that calls may write, each in blocks of its own; what came in stays. No program. A client of another chain in memory: its own cells, the front's lists, the map of App hashes. Walks: a client of another chain: take, Height, Chain, Frozen, Root, Update. Walks: methods of a client of another chain, and of none: Height, Chain, Frozen, Root, Update, Blame, Member, Absent, Copy. Walks: a client of another chain: Update, Blame, Copy, New. Walks: client.New; nunciolaw19's alive. -/
import Derived.Test.YtbhghlendbcejaaGreatDoorVf
import Derived.Maps.OwnSet
import Derived.Test.YtbhghlendbcejaaGreatDoorDrw
import Derived.Test.YtbhghlendbcejaaGreatDoorCs
import Derived.Test.YtbhghlendbcejaaGreatDoorVs
import Derived.Shelf.SlMaps.Clone
namespace Go.Proofs.YtbhghlendbcejaaGreatDoor
open Go.RowKit Go.Maps
set_option maxRecDepth 100000

abbrev Roots := List (Int × List UInt8)
/-- as a map's datum -/
def rootsW : Roots → DataW Value
  | [] => .map []
  | (h, a) :: r => (rootsW r).put (.int .i64 h) (.held (.agg (Lib.byteCells a).toArray))
def rootsAt : Roots → Int → Option (List UInt8)
  | [], _ => none
  | (h, a) :: r, k => if k = h then some a else rootsAt r k
theorem rootsW_map : ∀ r : Roots, IsMap (rootsW r)
  | [] => ⟨[], rfl⟩
  | (_, _) :: r => (rootsW_map r).put _ _
theorem int_keyLit (h : Int) : WideAt.IsKeyLit (.int .i64 h) := trivial
theorem int_lit_ne {h k : Int} (e : k ≠ h) : (Lit.int .i64 k) ≠ Lit.int .i64 h := fun q => e (by injection q)
theorem rootsW_has : ∀ (r : Roots) (k : Int), has (rootsW r) (.int .i64 k) = (rootsAt r k).isSome
  | [], _ => rfl
  | (h, a) :: r, k => by
    unfold rootsW rootsAt
    by_cases e : k = h
    · subst e
      rw [has_put_same (rootsW_map r) (int_keyLit k), if_pos rfl]; rfl
    · rw [has_put_other (int_lit_ne e), if_neg e, rootsW_has r k]
theorem rootsW_at : ∀ (r : Roots) (k : Int) (b : List UInt8), rootsAt r k = some b → ∀ z, (rootsW r).atKey (.int .i64 k) z = .held (.agg (Lib.byteCells b).toArray)
  | [], _, _, h => by cases h
  | (h, a) :: r, k, b, e => by
    intro z
    unfold rootsW
    unfold rootsAt at e
    by_cases q : k = h
    · subst q
      rw [if_pos rfl] at e
      injection e with e
      subst e
      rw [atKey_put_same (rootsW_map r) (int_keyLit k)]
    · rw [if_neg q] at e
      rw [atKey_put_other (int_lit_ne q)]
      exact rootsW_at r k b e z

/-- a client: what it was told to ask, the front, App hashes, whether it is frozen -/
structure ClD where
  o : OptD
  front : LightD
  roots : Roots
  cold : Bool
def ClD.take (c : ClD) (l : LightD) : ClD := { c with front := l, roots := (l.header.height, l.header.app) :: c.roots }
def ClD.new (l : LightD) (o : OptD) : ClD := ⟨o, l, [(l.header.height, l.header.app)], false⟩
def ClD.update (c : ClD) (l : LightD) (now : Nat) : ClD × Int :=
  if c.cold = true then (c, 155) else if vstepL c.front l now c.o = 0 then (c.take l, 0) else (c, vstepL c.front l now c.o)
def ClD.blame (c : ClD) (l : LightD) : ClD × Int :=
  if l.header.height ≠ c.front.header.height ∨ VEq l.header.cells c.front.header.cells = true ∨ soundL c.front.header.chain l ≠ 0 then (c, 171) else ({ c with cold := true }, 0)
/-- what is told of a height -/
def ClD.root (c : ClD) (h : Int) : List UInt8 × Int :=
  match rootsAt c.roots h with
  | none => (List.replicate 32 0, 191)
  | some a => if c.cold = true then (List.replicate 32 0, 191) else (a, 0)
theorem update_refused {c : ClD} {l : LightD} {now : Nat} (h : (c.update l now).2 ≠ 0) : (c.update l now).1 = c := by
  unfold ClD.update at *
  split
  · rfl
  · split
    · rename_i h1 h2
      rw [if_neg h1, if_pos h2] at h
      exact absurd rfl h
    · rfl
theorem update_cold {c : ClD} (h : c.cold = true) (l : LightD) (now : Nat) : c.update l now = (c, 155) := by unfold ClD.update; rw [if_pos h]
theorem root_cold {c : ClD} (h : c.cold = true) (k : Int) : c.root k = (List.replicate 32 0, 191) := by
  unfold ClD.root
  split
  · rfl
  · rw [if_pos h]
/-- behind an update that is taken: the block's own App hash at its height, all others as they were -/
theorem update_taken {c : ClD} {l : LightD} {now : Nat} (h : (c.update l now).2 = 0) : c.cold = false ∧ vstepL c.front l now c.o = 0 ∧ (c.update l now).1 = c.take l := by
  unfold ClD.update at *
  by_cases h1 : c.cold = true
  · rw [if_pos h1] at h; exact absurd h (show ¬ (155 : Int) = 0 by decide)
  · rw [if_neg h1] at h ⊢
    by_cases h2 : vstepL c.front l now c.o = 0
    · rw [if_pos h2]
      exact ⟨by simpa using h1, h2, rfl⟩
    · rw [if_neg h2] at h
      exact absurd h h2
theorem take_root {c : ClD} (hc : c.cold = false) (l : LightD) (k : Int) : (c.take l).root k = if k = l.header.height then (l.header.app, 0) else c.root k := by
  have e0 : rootsAt (c.take l).roots k = if k = l.header.height then some l.header.app else rootsAt c.roots k := rfl
  have e1 : (c.take l).cold = c.cold := rfl
  unfold ClD.root
  rw [e0, e1]
  by_cases e : k = l.header.height
  · rw [if_pos e, if_pos e, hc]; rfl
  · rw [if_neg e, if_neg e]
/-- a light block whose lists are no longer than sets may be -/
structure LightD.mid (l : LightD) : Prop where
  wf : l.wf
  seals : l.commit.seals.length ≤ 64
  set : l.set.length ≤ 64
  next : l.next.length ≤ 64
  chain : l.header.chain.size ≤ 140737488351232
theorem rightL_le {ds : List ValD} (h : rightL ds = true) : ds.length ≤ 64 := by
  unfold rightL at h
  simp only [Bool.and_eq_true, decide_eq_true_eq] at h
  exact h.2
theorem SoundOk.mid {ch : ByteArray} {l : LightD} (h : SoundOk ch l) (hw : l.wf) (hc : l.header.chain.size ≤ 140737488351232) : l.mid := by
  have h2 := h.commit
  unfold okCommitN at h2
  simp only [Bool.and_eq_true, decide_eq_true_eq] at h2
  exact ⟨hw, h2.2, rightL_le h.set, rightL_le h.next, hc⟩
/-- App hashes are of 32 bytes -/
structure ClD.ok (c : ClD) : Prop where
  o : c.o.wf
  front : c.front.wf
  roots : ∀ p ∈ c.roots, p.2.length = 32 ∧ i64R p.1
/-- the front's own App hash is told -/
def ClD.told (c : ClD) : Prop := rootsAt c.roots c.front.header.height = some c.front.header.app
theorem ClD.told_take (c : ClD) (l : LightD) : (c.take l).told := by
  unfold ClD.told ClD.take rootsAt
  dsimp only
  rw [if_pos rfl]
theorem ClD.told_new (l : LightD) (o : OptD) : (ClD.new l o).told := by
  unfold ClD.told ClD.new rootsAt
  dsimp only
  rw [if_pos rfl]
theorem ClD.told_update {c : ClD} (h : c.told) (l : LightD) (now : Nat) : (c.update l now).1.told := by
  unfold ClD.update
  split
  · exact h
  · split
    · exact c.told_take l
    · exact h
theorem ClD.told_blame {c : ClD} (h : c.told) (l : LightD) : (c.blame l).1.told := by
  unfold ClD.blame
  split <;> exact h
theorem ClD.ok.take {c : ClD} (h : c.ok) {l : LightD} (hl : l.wf) : (c.take l).ok := by
  refine ⟨h.o, hl, ?_⟩
  intro p hp
  rcases List.mem_cons.1 hp with rfl | hp
  · exact ⟨hl.header.app, hl.header.height⟩
  · exact h.roots p hp
theorem ClD.ok.update {c : ClD} (h : c.ok) {l : LightD} (hl : l.wf) (now : Nat) : (c.update l now).1.ok := by
  unfold ClD.update
  split
  · exact h
  · split
    · exact h.take hl
    · exact h
theorem ClD.ok.blame {c : ClD} (h : c.ok) (l : LightD) : (c.blame l).1.ok := by
  unfold ClD.blame
  split
  · exact h
  · exact ⟨h.o, h.front, h.roots⟩
theorem update_room (c : ClD) (l : LightD) (now : Nat) : (c.update l now).1.roots.length ≤ c.roots.length + 1 := by
  unfold ClD.update
  split
  · exact Nat.le_succ _
  · split
    · exact Nat.le_refl _
    · exact Nat.le_succ _
theorem blame_room (c : ClD) (l : LightD) : (c.blame l).1.roots.length = c.roots.length := by
  unfold ClD.blame
  split <;> rfl
theorem rootsAt_len {r : Roots} (h : ∀ p ∈ r, p.2.length = 32) {k : Int} {a : List UInt8} (e : rootsAt r k = some a) : a.length = 32 := by
  induction r with
  | nil => cases e
  | cons p r ih =>
    obtain ⟨q, b⟩ := p
    unfold rootsAt at e
    by_cases c : k = q
    · rw [if_pos c] at e
      injection e with e
      subst e
      exact h (q, b) (by simp)
    · rw [if_neg c] at e
      exact ih (fun p hp => h p (by simp [hp])) e
open Go.RowKit

/-- a thing in memory: what holds of it, by the blocks that are its own; it stays while others, at B or above, are written -/
structure Thing (B : Nat) where
  at_ : (Nat → Prop) → World → Prop
  keep : ∀ {F G : Nat → Prop} {w w' : World}, at_ F w → (∀ b, F b → b < w.heap.size) → Tch G w w' → (∀ b, G b → B ≤ b ∧ ¬ F b) → at_ F w'
/-- since w0: blocks L, and things, apart from one another -/
structure Sep (w0 w : World) (L : List (Nat × List Value × TypeId)) (Ts : List (Thing w0.heap.size)) : Prop where
  own : ∀ e ∈ L, Blk w e.1 e.2.1 e.2.2
  new : ∀ e ∈ L, w0.heap.size ≤ e.1
  nodup : L.Pairwise fun d e => d.1 ≠ e.1
  g : w0.grownBy w none
  ex : ∃ Fs : List (Nat → Prop), Fs.length = Ts.length ∧
    (∀ (i : Nat) (F : Nat → Prop) (T : Thing w0.heap.size), Fs[i]? = some F → Ts[i]? = some T → T.at_ F w ∧ ∀ b, F b → w0.heap.size ≤ b ∧ b < w.heap.size ∧ ∀ e ∈ L, e.1 ≠ b) ∧
    ∀ (i j : Nat) (F G : Nat → Prop), i ≠ j → Fs[i]? = some F → Fs[j]? = some G → ∀ b, F b → ¬ G b
section
variable {w0 w w' : World} {L L' : List (Nat × List Value × TypeId)} {Ts : List (Thing w0.heap.size)} {T T' : Thing w0.heap.size}
theorem Sep.start (O : OwF (fun _ => False) w0 w L) : Sep w0 w L [] :=
  ⟨O.blk, fun e he => (O.ok e he).resolve_right id, O.nodup, O.tch.grown (fun _ h => h.elim), [], rfl, fun i F T h => by simp at h, fun i j F G _ h => by simp at h⟩
theorem Sep.O (h : Sep w0 w L Ts) : OwF (fun b => ∃ e ∈ L, e.1 = b) w w L := ⟨Tch.refl _ _, h.own, fun e he => .inr ⟨e, he, rfl⟩, h.nodup⟩
/-- behind steps that touch the own blocks alone -/
theorem Sep.move (h : Sep w0 w L Ts) (O : OwF (fun b => ∃ e ∈ L, e.1 = b) w w' L') : Sep w0 w' L' Ts := by
  obtain ⟨Fs, hl, hF, hd⟩ := h.ex
  refine ⟨O.blk, ?_, O.nodup, ?_, Fs, hl, ?_, hd⟩
  · intro e he
    rcases O.ok e he with h1 | ⟨d, hd, e1⟩
    · exact Nat.le_trans h.g.size h1
    · rw [← e1]; exact h.new d hd
  · exact ((Tch.of_grown (F := fun _ => False) h.g).trans O.tch (fun b hb hl => by obtain ⟨e, he, rfl⟩ := hb; have := h.new e he; omega)).grown (fun _ h => h.elim)
  · intro i F T hi hT
    obtain ⟨k1, k2⟩ := hF i F T hi hT
    refine ⟨T.keep k1 (fun b hb => (k2 b hb).2.1) O.tch (fun b hb => ?_), fun b hb => ⟨(k2 b hb).1, Nat.lt_of_lt_of_le (k2 b hb).2.1 O.tch.size, fun e he e1 => ?_⟩⟩
    · obtain ⟨e, he, rfl⟩ := hb
      exact ⟨h.new e he, fun q => (k2 _ q).2.2 e he rfl⟩
    · rcases O.ok e he with h1 | ⟨d, hd, e2⟩
      · have := (k2 b hb).2.1; omega
      · exact (k2 b hb).2.2 d hd (e2.trans e1)
theorem Sep.grown (h : Sep w0 w L Ts) (g : w.grownBy w' none) : Sep w0 w' L Ts := h.move (h.O.call g)
theorem Sep.tail {e : Nat × List Value × TypeId} (h : Sep w0 w (e :: L) Ts) : Sep w0 w L Ts :=
  h.move ⟨Tch.refl _ _, fun d hd => h.own d (List.mem_cons_of_mem _ hd), fun d hd => .inr ⟨d, List.mem_cons_of_mem _ hd, rfl⟩, h.nodup.tail⟩
theorem Sep.bare (h : Sep w0 w L Ts) : Sep w0 w [] Ts := h.move h.O.forget
/-- beside blocks that were made since -/
theorem Sep.joins (h : Sep w0 w L Ts) (O : OwF (fun _ => False) w w' L') : Sep w0 w' (L ++ L') Ts := by
  have g : w.grownBy w' none := O.tch.grown (fun _ h => h.elim)
  refine h.move ⟨O.tch.mono (fun _ h _ => h.elim), ?_, ?_, ?_⟩
  · intro e he
    rcases List.mem_append.1 he with he | he
    · exact (h.own e he).grown g (by simp)
    · exact O.blk e he
  · intro e he
    rcases List.mem_append.1 he with he | he
    · exact .inr ⟨e, he, rfl⟩
    · exact .inl ((O.ok e he).resolve_right id)
  · refine List.pairwise_append.2 ⟨h.nodup, O.nodup, fun d hd e he e1 => ?_⟩
    have := (h.own d hd).lt; have := (O.ok e he).resolve_right id
    omega
/-- one of them -/
theorem Sep.get (h : Sep w0 w L Ts) (i : Nat) (hi : Ts[i]? = some T) : ∃ F : Nat → Prop, T.at_ F w ∧ ∀ b, F b → w0.heap.size ≤ b ∧ b < w.heap.size := by
  obtain ⟨Fs, hl, hF, hd⟩ := h.ex
  have hlt : i < Fs.length := by rw [hl]; exact (List.getElem?_eq_some_iff.1 hi).1
  obtain ⟨k1, k2⟩ := hF i Fs[i] T (List.getElem?_eq_getElem hlt) hi
  exact ⟨_, k1, fun b hb => ⟨(k2 b hb).1, (k2 b hb).2.1⟩⟩
/-- one of them is written, and is another thing -/
theorem Sep.set (h : Sep w0 w L Ts) (i : Nat) {F F' : Nat → Prop} (Fs : List (Nat → Prop)) (hl : Fs.length = Ts.length)
    (hF : ∀ (i : Nat) (F : Nat → Prop) (T : Thing w0.heap.size), Fs[i]? = some F → Ts[i]? = some T → T.at_ F w ∧ ∀ b, F b → w0.heap.size ≤ b ∧ b < w.heap.size ∧ ∀ e ∈ L, e.1 ≠ b)
    (hd : ∀ (i j : Nat) (F G : Nat → Prop), i ≠ j → Fs[i]? = some F → Fs[j]? = some G → ∀ b, F b → ¬ G b) (hi : Fs[i]? = some F) (hT : T'.at_ F' w') (t : Tch F w w') (h1 : ∀ b, F' b → F b ∨ w.heap.size ≤ b) (h2 : ∀ b, F' b → b < w'.heap.size) : Sep w0 w' L (Ts.set i T') := by
  have hlt : i < Fs.length := (List.getElem?_eq_some_iff.1 hi).1
  have hFi : ∀ b, F b → w0.heap.size ≤ b ∧ b < w.heap.size ∧ ∀ e ∈ L, e.1 ≠ b := (hF i F Ts[i] hi (List.getElem?_eq_getElem (by omega))).2
  refine ⟨fun e he => t.blk (h.own e he) (fun hb => (hFi _ hb).2.2 e he rfl), h.new, h.nodup, ?_, Fs.set i F', by rw [List.length_set, List.length_set, hl], ?_, ?_⟩
  · exact ((Tch.of_grown (F := fun _ => False) h.g).trans t (fun b hb hl => by have := (hFi b hb).1; omega)).grown (fun _ h => h.elim)
  · intro j G U hj hU
    by_cases hji : i = j
    · subst hji
      rw [List.getElem?_set_self hlt] at hj
      rw [List.getElem?_set_self (by omega)] at hU
      injection hj with hj; injection hU with hU
      subst hj hU
      refine ⟨hT, fun b hb => ⟨?_, h2 b hb, fun e he e1 => ?_⟩⟩
      · rcases h1 b hb with q | q
        · exact (hFi b q).1
        · exact Nat.le_trans h.g.size q
      · rcases h1 b hb with q | q
        · exact (hFi b q).2.2 e he e1
        · have := (h.own e he).lt; omega
    · rw [List.getElem?_set_ne hji] at hj hU
      obtain ⟨k1, k2⟩ := hF j G U hj hU
      exact ⟨U.keep k1 (fun b hb => (k2 b hb).2.1) t (fun b hb => ⟨(hFi b hb).1, fun q => hd i j F G hji hi hj b hb q⟩), fun b hb => ⟨(k2 b hb).1, Nat.lt_of_lt_of_le (k2 b hb).2.1 t.size, (k2 b hb).2.2⟩⟩
  · have inj : ∀ (j : Nat) (G : Nat → Prop), i ≠ j → Fs[j]? = some G → ∀ b, F' b → ¬ G b := fun j G hji hj b hb q => by
      have hjl : j < Fs.length := (List.getElem?_eq_some_iff.1 hj).1
      rcases h1 b hb with k | k
      · exact hd i j F G hji hi hj b k q
      · have := ((hF j G Ts[j] hj (List.getElem?_eq_getElem (by omega))).2 b q).2.1; omega
    intro j k G H hjk hj hk b hb q
    by_cases hji : i = j
    · subst hji
      rw [List.getElem?_set_self hlt] at hj
      injection hj with hj
      subst hj
      rw [List.getElem?_set_ne hjk] at hk
      exact inj k H hjk hk b hb q
    · rw [List.getElem?_set_ne hji] at hj
      by_cases hki : i = k
      · subst hki
        rw [List.getElem?_set_self hlt] at hk
        injection hk with hk
        subst hk
        exact inj j G hji hj b q hb
      · rw [List.getElem?_set_ne hki] at hk
        exact hd j k G H hjk hj hk b hb q
/-- a call that writes one of them -/
theorem Sep.call {P : Program} {f : Nat} {args : Array Value} {X : Ending → Thing w0.heap.size → Prop} (h : Sep w0 w L Ts) (i : Nat) (hi : Ts[i]? = some T)
    (C : ∀ F : Nat → Prop, T.at_ F w → (∀ b, F b → w0.heap.size ≤ b ∧ b < w.heap.size) → Calls P f args w fun e w' => ∃ T', X e T' ∧ ∃ F' : Nat → Prop, T'.at_ F' w' ∧ Tch F w w' ∧ (∀ b, F' b → F b ∨ w.heap.size ≤ b) ∧ ∀ b, F' b → b < w'.heap.size) :
    Calls P f args w fun e w' => ∃ T', X e T' ∧ Sep w0 w' L (Ts.set i T') := by
  obtain ⟨Fs, hl, hF, hd⟩ := h.ex
  have hlt : i < Fs.length := by rw [hl]; exact (List.getElem?_eq_some_iff.1 hi).1
  have hq := List.getElem?_eq_getElem hlt
  obtain ⟨k1, k2⟩ := hF i Fs[i] T hq hi
  refine (C Fs[i] k1 (fun b hb => ⟨(k2 b hb).1, (k2 b hb).2.1⟩)).mono ?_
  rintro e w' ⟨T', hx, F', q1, q2, q3, q4⟩
  exact ⟨T', hx, h.set i Fs hl hF hd hq q1 q2 q3 q4⟩
/-- a new thing, in new blocks -/
theorem Sep.add (h : Sep w0 w L Ts) (g : w.grownBy w' none) {F : Nat → Prop} (hT : T.at_ F w') (hF2 : ∀ b, F b → w.heap.size ≤ b ∧ b < w'.heap.size) : Sep w0 w' L (T :: Ts) := by
  have k := h.grown g
  obtain ⟨Fs, hl, hF, hd⟩ := h.ex
  refine ⟨k.own, k.new, k.nodup, k.g, F :: Fs, by simp [hl], ?_, ?_⟩
  · intro i G U hi hU
    cases i with
    | zero =>
      simp only [List.getElem?_cons_zero, Option.some.injEq] at hi hU
      subst hi hU
      exact ⟨hT, fun b hb => ⟨Nat.le_trans h.g.size (hF2 b hb).1, (hF2 b hb).2, fun e he e1 => by have := (h.own e he).lt; have := (hF2 b hb).1; omega⟩⟩
    | succ i =>
      simp only [List.getElem?_cons_succ] at hi hU
      obtain ⟨k1, k2⟩ := hF i G U hi hU
      exact ⟨U.keep k1 (fun b hb => (k2 b hb).2.1) (Tch.of_grown (F := fun _ => False) g) (fun b hb => hb.elim), fun b hb => ⟨(k2 b hb).1, Nat.lt_of_lt_of_le (k2 b hb).2.1 g.size, (k2 b hb).2.2⟩⟩
  · have inj : ∀ (j : Nat) (G : Nat → Prop), Fs[j]? = some G → ∀ b, F b → ¬ G b := fun j G hj b hb q => by
      have hjl : j < Fs.length := (List.getElem?_eq_some_iff.1 hj).1
      have := ((hF j G Ts[j] hj (List.getElem?_eq_getElem (by omega))).2 b q).2.1
      have := (hF2 b hb).1; omega
    intro i j G H hij hi hj b hb q
    cases i with
    | zero =>
      simp only [List.getElem?_cons_zero, Option.some.injEq] at hi
      subst hi
      cases j with
      | zero => exact hij rfl
      | succ j => exact inj j H (by simpa using hj) b hb q
    | succ i =>
      simp only [List.getElem?_cons_succ] at hi
      cases j with
      | zero =>
        simp only [List.getElem?_cons_zero, Option.some.injEq] at hj
        subst hj
        exact inj i G hi b q hb
      | succ j =>
        simp only [List.getElem?_cons_succ] at hj
        exact hd i j G H (fun e => hij (by rw [e])) hi hj b hb q
theorem Sep.less (h : Sep w0 w L (T :: Ts)) : Sep w0 w L Ts := by
  obtain ⟨Fs, hl, hF, hd⟩ := h.ex
  cases Fs with
  | nil => simp at hl
  | cons F Fs =>
    exact ⟨h.own, h.new, h.nodup, h.g, Fs, by simpa using hl, fun i G U hi hU => hF (i + 1) G U (by simpa using hi) (by simpa using hU), fun i j G H hij hi hj => hd (i + 1) (j + 1) G H (by omega) (by simpa using hi) (by simpa using hj)⟩
end

section
variable {H : Type} {P : Program} {k : TypeId} {R : Value → Option (DataW H × List MemPlace)} {w w' : World} {b n : Nat} {D : DataW H} {G : Nat → Prop}
theorem ownsMap_tch (h : w.ownsMap P k R b n D) (t : Tch G w w') (hb : ¬ G b) : w'.ownsMap P k R b n D := by
  have hlt := h.lt
  obtain ⟨es, clock, hq, F, hs, hD⟩ := h
  exact ⟨es, clock, (t.block b hlt hb).trans hq, F, hs, hD⟩
end
/-- an App hash in the map reads as itself -/
def heldV (v : Value) : Option (DataW Value × List MemPlace) := some (.held v, [])
theorem heldV_inj {v : Value} {d : DataW Value} {ps : List MemPlace} (h : heldV v = some (d, ps)) : d = .held v := by
  unfold heldV at h
  injection h with h
  injection h with h _
  exact h.symm
theorem intmap_keyed : Keyed Tryz.prog 3 := int_keyed Tryz.underlying3
theorem i64_key (n : Int) (h : i64R n) : keyOf Tryz.prog 3 (.int .i64 n) = some (.int .i64 n) :=
  keyOf_int_mk Tryz.underlying3 (by
    have e1 : IntKind.i64.min = -9223372036854775808 := rfl
    have e2 : IntKind.i64.max = 9223372036854775807 := rfl
    unfold i64R at h
    simp only [Lit.wf, e1, e2, Bool.and_eq_true, decide_eq_true_eq]
    omega)
theorem LightD.fit.mid {l : LightD} (h : l.fit) : l.mid := ⟨h.wf, Nat.le_trans h.seals (by decide), Nat.le_trans h.set (by decide), Nat.le_trans h.next (by decide), h.chain⟩
def clCells (c : ClD) (x : LtR) (bm : Nat) : List Value := c.o.cells ++ (x.cells ++ [.map (some bm), .bool c.cold])
theorem cl_get (c : ClD) {x : LtR} (hx : x.wf) (bm : Nat) : (clCells c x bm)[203]? = some (.map (some bm)) ∧ (clCells c x bm)[204]? = some (.bool c.cold) := by
  have h := x.cells_length hx
  have ho : c.o.cells.length = 3 := rfl
  unfold clCells
  rw [List.getElem?_append_right (by omega), List.getElem?_append_right (by omega), List.getElem?_append_right (by omega), List.getElem?_append_right (by omega), ho, h]
  exact ⟨rfl, rfl⟩
theorem cl_len (c : ClD) {x : LtR} (hx : x.wf) (bm : Nat) : (clCells c x bm).length = 205 := by
  unfold clCells
  rw [List.length_append, List.length_append, x.cells_length hx]; rfl
/-- another front -/
theorem cl_put (c : ClD) {x z : LtR} (hx : x.wf) (hz : z.wf) (bm : Nat) : (clCells c x bm).take 3 ++ z.cells ++ (clCells c x bm).drop (3 + z.cells.length) = c.o.cells ++ (z.cells ++ [.map (some bm), .bool c.cold]) := by
  have ho : c.o.cells.length = 3 := rfl
  have h1 := x.cells_length hx; have h2 := z.cells_length hz
  unfold clCells
  rw [List.take_append_of_le_length (by omega), List.take_of_length_le (by omega), h2, List.drop_append, List.drop_of_length_le (by omega), ho, List.nil_append, List.drop_append, List.drop_of_length_le (by omega), h1]
  simp
structure ClRep (T : TypeId) (I : Nat → Prop) (w : World) (p bm : Nat) (x : LtR) (c : ClD) : Prop where
  blk : Blk w p (clCells c x bm) T
  of_ : x.of w.heap.size w c.front
  inn : x.inn I
  fit : c.front.mid
  map : w.ownsMap Tryz.prog 3 heldV bm c.roots.length (rootsW c.roots)
  ne : p ≠ bm
  out : ∀ b, I b → b < w.heap.size ∧ b ≠ p ∧ b ≠ bm
  ok : c.ok
  room : c.roots.length ≤ 100000
section
variable {T : TypeId} {I : Nat → Prop} {w w' : World} {p bm : Nat} {x : LtR} {c : ClD} {G : Nat → Prop}
theorem ClRep.wf (h : ClRep T I w p bm x c) : x.wf := h.of_.wf h.fit.wf
theorem ClRep.tch (h : ClRep T I w p bm x c) (t : Tch G w w') (h1 : ¬ G p) (h2 : ¬ G bm) (h3 : ∀ b, I b → ¬ G b) : ClRep T I w' p bm x c :=
  ⟨t.blk h.blk h1, (h.of_.tch t h.inn h3).mono t.size, h.inn, h.fit, ownsMap_tch h.map t h2, h.ne, fun b hb => ⟨Nat.lt_of_lt_of_le (h.out b hb).1 t.size, (h.out b hb).2⟩, h.ok, h.room⟩
theorem ClRep.grown (h : ClRep T I w p bm x c) (g : w.grownBy w' none) : ClRep T I w' p bm x c := h.tch (G := fun _ => False) (Tch.of_grown g) id id (fun _ _ => id)
theorem ClRep.height (h : ClRep T I w p bm x c) : w.cell? ⟨p, 4, none⟩ = some (.int .i64 c.front.header.height) := by
  have := h.blk.row 4 (.int .i64 x.header.height) rfl
  rwa [Nat.zero_add, h.of_.header] at this
theorem ClRep.chain (h : ClRep T I w p bm x c) : w.cell? ⟨p, 3, none⟩ = some (.string c.front.header.chain) := by
  have := h.blk.row 3 (.string x.header.chain) rfl
  rwa [Nat.zero_add, h.of_.header] at this
theorem ClRep.cold (h : ClRep T I w p bm x c) : w.cell? ⟨p, 204, none⟩ = some (.bool c.cold) := by
  have := h.blk.row 204 _ (cl_get c h.wf bm).2
  rwa [Nat.zero_add] at this
theorem ClRep.roots (h : ClRep T I w p bm x c) : w.cell? ⟨p, 203, none⟩ = some (.map (some bm)) := by
  have := h.blk.row 203 _ (cl_get c h.wf bm).1
  rwa [Nat.zero_add] at this
theorem ClRep.opt (h : ClRep T I w p bm x c) : RowAt w p 0 c.o.cells := row_pre h.blk.row
theorem ClRep.frontAt (h : ClRep T I w p bm x c) : RowAt w p 3 x.cells := by
  intro j v hj
  have hl : j < x.cells.length := (List.getElem?_eq_some_iff.1 hj).1
  have e : (clCells c x bm)[3 + j]? = some v := by
    have ho : c.o.cells.length = 3 := rfl
    unfold clCells
    rw [List.getElem?_append_right (by omega), ho, Nat.add_sub_cancel_left, List.getElem?_append_left hl, hj]
  have := h.blk.row (3 + j) v e
  rwa [Nat.zero_add] at this
/-- what a height's App hash is, looked up -/
theorem ClRep.look (h : ClRep T I w p bm x c) {t : TypeId} (ht : Tryz.prog.underlying t = some (.map 3 23)) (hz : (zeroValue 23).run Tryz.prog w = .ok (.agg (Lib.byteCells (List.replicate 32 0)).toArray) w) (k : Int) (hk : i64R k) :
    (Instr.lookup t (.map (some bm)) (.int .i64 k) true).run Tryz.prog w = .ok (.tuple #[.agg (Lib.byteCells ((rootsAt c.roots k).getD (List.replicate 32 0))).toArray, .bool (rootsAt c.roots k).isSome]) w := by
  obtain ⟨v, ps, hrun, hv⟩ := h.map.look_ok intmap_keyed ht hz (show heldV _ = some (.held _, []) from rfl) (i64_key k hk)
  have hd := heldV_inj hv
  rw [rootsW_has] at hrun
  rw [hrun]
  cases e : rootsAt c.roots k with
  | none =>
    rw [atKey_of_not_has (by rw [rootsW_has, e]; rfl)] at hd
    injection hd with hd
    rw [← hd]; rfl
  | some a =>
    rw [rootsW_at _ _ _ e] at hd
    injection hd with hd
    rw [← hd]; rfl
end
/-- the client as a thing among others -/
def clT (B : Nat) (T : TypeId) (p : Nat) (c : ClD) : Thing B where
  at_ F w := ∃ I bm x, ClRep T I w p bm x c ∧ ∀ b, F b ↔ b = p ∨ b = bm ∨ I b
  keep := by
    rintro F G w w' ⟨I, bm, x, h, hF⟩ _ t hG
    exact ⟨I, bm, x, h.tch t (fun g => (hG _ g).2 ((hF _).2 (.inl rfl))) (fun g => (hG _ g).2 ((hF _).2 (.inr (.inl rfl)))) (fun b hb g => (hG _ g).2 ((hF _).2 (.inr (.inr hb)))), hF⟩

section
variable {P : Program} {o : Oper} {a : Act} {w : World} {Q : Exit → Act → World → Prop} {K : Act → World → Prop}
theorem wp_mapPut (t : TypeId) (m k x : Operand) (ho : o.op = .mapUpdate t m k x) {mv kv xv : Value} {w1 : World} (hm : a.eval m = mv) (hk : a.eval k = kv) (hx : a.eval x = xv) (hrun : (Instr.mapUpdate t mv kv xv).run P w = .ok () w1) (h : K (a.put o.dst undef) w1) : o.wp P a w K Q := by
  unfold Oper.wp execOp
  simp only [ho, hm, hk, hx, Sem.run_bind, Sem.run_pure, Result.andThen_ok, hrun]
  exact h
end
theorem LtR.app_at0 {y : LtR} (hy : y.wf) {w : World} {g : Nat} (h : RowAt w g 0 y.cells) : RowAt w g 131 (Lib.byteCells y.header.app) := LtR.happ_at h hy
set_option maxHeartbeats 8000000 in
theorem take_ok {I : Nat → Prop} {w0 : World} {p bm : Nat} {x : LtR} {c : ClD} (h : ClRep 87 I w0 p bm x c) (y : LtR) (l : LightD) (ho : y.of w0.heap.size w0 l) (hl : l.mid) (hroom : c.roots.length + 1 ≤ 100000) :
    Calls Tryz.prog 43 #[.pointer (some ⟨p, 0, none⟩), .agg y.cells.toArray] w0 fun e w' => e = .returned (.tuple #[]) ∧ ∃ (I' : Nat → Prop) (z : LtR), ClRep 87 I' w' p bm z (c.take l) ∧ Tch (fun b => b = p ∨ b = bm) w0 w' ∧ ∀ b, I' b → w0.heap.size ≤ b := by
  have O := OwF.start (fun _ => False) w0
  have HX := Lib.hid (ho.wf hl.wf); have H := Lib.hid h; have HFI := Lib.hid hl; have HRM := Lib.hid hroom
  have CS := Lib.hid (fun w (g : w0.grownBy w none) => cloneSeals w (ho.grown g).seals (by have := hl.seals; omega))
  have CT := Lib.hid (fun w (g : w0.grownBy w none) => cloneVals w (ho.grown g).set (by have := hl.set; omega))
  have CN := Lib.hid (fun w (g : w0.grownBy w none) => cloneVals w (ho.grown g).next (by have := hl.next; omega))
  obtain ⟨n1, hn1⟩ : ∃ n, l.commit.seals.length = n := ⟨_, rfl⟩
  obtain ⟨n2, hn2⟩ : ∃ n, l.set.length = n := ⟨_, rfl⟩
  obtain ⟨n3, hn3⟩ : ∃ n, l.next.length = n := ⟨_, rfl⟩
  have HO := Lib.hid ho; have HN := Lib.hid (show l.commit.seals.length = n1 ∧ l.set.length = n2 ∧ l.next.length = n3 from ⟨hn1, hn2, hn3⟩)
  rw [hn1] at CS; rw [hn2] at CT; rw [hn3] at CN
  clear hn1 hn2 hn3 ho hl h hroom
  go_enter Tryz.func43, Tryz.ntmps43
  go_upto_region 1 with (first | ((with_reducible refine @wpList_at _ _ _ _ _ _ _ (.box 31 (.tmp 1)) rfl ?_); refine @wpList_of_box _ _ _ _ _ _ _ _ _ _ 31 (.tmp 1) rfl y.cells rfl O rfl ?_; clear O; intro bi w O))
  replace O := O.drew
  obtain ⟨S, hS⟩ : ∃ s, w.drew.heap.size = s := ⟨_, rfl⟩
  have hbi := (O.at_ 0 rfl).lt
  rw [hS] at hbi
  have HSZ := Lib.hid O.tch.size
  refine wp_region_J (rdf [(2, bi, 197, [(.slice y.sa y.sn y.sc)]), (5, bi, 198, [(.slice y.ta y.tn y.tc)]), (8, bi, 199, [(.slice y.na y.nn y.nc)])]) [3, 6, 9, 12, 14, 16] (by kernel_rfl) (RdA.cons (O.cellr (n := 0) rfl (y.get_seals HX.out)) (RdA.cons (O.cellr (n := 0) rfl (y.get_set HX.out)) (RdA.cons (O.cellr (n := 0) rfl (y.get_next HX.out)) RdA.nil))) (fun hH => ?_)
  refine jp 0 ((.pointer (some ⟨bi, 163, none⟩))) (Still.all hH) ?_
  simp only [Act.put, jq1, jq3, jq4, jq5, jq6]
  refine jp 1 ((.pointer (some ⟨bi, 197, none⟩))) (Still.all hH) ?_
  simp only [Act.put, jq1, jq2, jq3, jq4, jq5, jq6]
  refine jr 0 2 ((.slice y.sa y.sn y.sc)) rfl rfl (yields_cell (by rfl) 26 _ rfl bi 197 rfl (.slice y.sa y.sn y.sc) _ (fun W h => h) Tryz.underlying26 rfl) (Still.all hH) ?_
  simp only [Act.put, jq1, jq2, jq3, jq4, jq5, jq6]
  refine jp 4 ((.pointer (some ⟨bi, 198, none⟩))) (Still.all hH) ?_
  simp only [Act.put, jq1, jq2, jq3, jq4, jq5, jq6]
  refine jr 1 5 ((.slice y.ta y.tn y.tc)) rfl rfl (yields_cell (by rfl) 29 _ rfl bi 198 rfl (.slice y.ta y.tn y.tc) _ (fun W h => h) Tryz.underlying29 rfl) (Still.all hH) ?_
  simp only [Act.put, jq1, jq2, jq3, jq4, jq5, jq6]
  refine jp 7 ((.pointer (some ⟨bi, 199, none⟩))) (Still.all hH) ?_
  simp only [Act.put, jq1, jq2, jq3, jq4, jq5, jq6]
  refine jr 2 8 ((.slice y.na y.nn y.nc)) rfl rfl (yields_cell (by rfl) 29 _ rfl bi 199 rfl (.slice y.na y.nn y.nc) _ (fun W h => h) Tryz.underlying29 rfl) (Still.all hH) ?_
  simp only [Act.put, jq1, jq2, jq3, jq4, jq5, jq6]
  refine wpAnyJ_ready (rs := [3]) (by kernel_rfl) (by simp) ?_
  refine AllJ.keep rfl (by rfl) (by rfl) (fun K hK => ?_) (AllJ.nil)
  refine wp_call 70 _ _ (by rfl) (enters Tryz.func70 (by kernel_rfl) rfl) (by rfl) (CS.out _ (O.tch.grown (fun _ h => h.elim))) ?_
  rintro e u ⟨a1, c1, rfl, r1, d1, g1⟩
  refine ⟨_, rfl, ?_⟩
  replace O := O.call g1
  simp only [Act.put, jq1, jq2, jq3, jq4, jq5, jq6]
  refine hK.out _ _ (RdA.grown hH g1) ?_
  replace hH := RdA.grown hH g1
  clear hK K
  refine jp 10 ((.pointer (some ⟨bi, 163, none⟩))) (Still.all hH) ?_
  simp only [Act.put, jq1, jq2, jq3, jq4, jq5, jq6]
  refine jp 11 ((.pointer (some ⟨bi, 197, none⟩))) (Still.all hH) ?_
  simp only [Act.put, jq1, jq2, jq3, jq4, jq5, jq6]
  refine wpAnyJ_ready (rs := [6]) (by kernel_rfl) (by simp) ?_
  refine AllJ.keep rfl (by rfl) (by rfl) (fun K hK => ?_) (AllJ.nil)
  refine wp_call 71 _ _ (by rfl) (enters Tryz.func71 (by kernel_rfl) rfl) (by rfl) (CT.out _ (O.tch.grown (fun _ h => h.elim))) ?_
  rintro e u ⟨a2, c2, rfl, r2, d2, g2⟩
  refine ⟨_, rfl, ?_⟩
  replace O := O.call g2
  simp only [Act.put, jq1, jq2, jq3, jq4, jq5, jq6]
  refine hK.out _ _ (RdA.grown hH g2) ?_
  replace hH := RdA.grown hH g2
  clear hK K
  refine wpAnyJ_ready (rs := [9]) (by kernel_rfl) (by simp) ?_
  refine AllJ.keep rfl (by rfl) (by rfl) (fun K hK => ?_) (AllJ.nil)
  refine wp_call 71 _ _ (by rfl) (enters Tryz.func71 (by kernel_rfl) rfl) (by rfl) (CN.out _ (O.tch.grown (fun _ h => h.elim))) ?_
  rintro e u ⟨a3, c3, rfl, r3, d3, g3⟩
  refine ⟨_, rfl, ?_⟩
  replace O := O.call g3
  have G0 := Lib.hid O.tch
  replace O := O.again (S := S) (by simp only [List.mem_cons, List.not_mem_nil, or_false]; rintro e rfl; exact hbi)
  simp only [Act.put, jq1, jq2, jq3, jq4, jq5, jq6]
  refine hK.out _ _ (RdA.grown hH g3) ?_
  replace hH := RdA.grown hH g3
  clear hK K
  refine wpAnyJ_ready (rs := [12]) (by kernel_rfl) (by simp) ?_
  refine AllJ.turn rfl (by rfl) (by rfl) (fun K hK => ?_) (AllJ.nil)
  refine wp_of_store_cell 26 _ _ rfl O 0 bi 197 rfl (.slice a1 n1 c1) rfl (by kernel_rfl) _ _ rfl (by rw [y.cells_length HX.out]; decide) rfl ?_
  clear O
  intro w O
  simp only [List.set_cons_zero] at O
  simp only [Act.put, jq1, jq2, jq3]
  refine hK.out _ _ (waits_all (by kernel_rfl)) ?_
  clear hK K hH
  refine jp 13 ((.pointer (some ⟨bi, 198, none⟩))) (Still.none (by kernel_rfl)) ?_
  simp only [Act.put, jq1, jq2, jq3]
  refine wpAnyJ_ready (rs := [14]) (by kernel_rfl) (by simp) ?_
  refine AllJ.turn rfl (by rfl) (by rfl) (fun K hK => ?_) (AllJ.nil)
  refine wp_of_store_cell 29 _ _ rfl O 0 bi 198 rfl (.slice a2 n2 c2) rfl (by kernel_rfl) _ _ rfl (by simp only [List.length_set]; rw [y.cells_length HX.out]; decide) rfl ?_
  clear O
  intro w O
  simp only [List.set_cons_zero] at O
  simp only [Act.put, jq1, jq2, jq3, jq4, jq5, jq6]
  refine hK.out _ _ (waits_all (by kernel_rfl)) ?_
  clear hK K
  refine jp 15 ((.pointer (some ⟨bi, 199, none⟩))) (Still.none (by kernel_rfl)) ?_
  simp only [Act.put, jq1, jq2, jq3, jq4, jq5, jq6]
  refine wpAnyJ_ready (rs := [16]) (by kernel_rfl) (by simp) ?_
  refine AllJ.turn rfl (by rfl) (by rfl) (fun K hK => ?_) (AllJ.nil)
  refine wp_of_store_cell 29 _ _ rfl O 0 bi 199 rfl (.slice a3 n3 c3) rfl (by kernel_rfl) _ _ rfl (by simp only [List.length_set]; rw [y.cells_length HX.out]; decide) rfl ?_
  clear O
  intro w O
  simp only [List.set_cons_zero] at O
  simp only [Act.put, jq1, jq2, jq3]
  refine hK.out _ _ (waits_all (by kernel_rfl)) ?_
  clear hK K
  refine wpAnyJ_done (by kernel_rfl) ?_ _
  rw [LtR.put_lists HX.out] at O
  have HY := Lib.hid (show LtR.wf (y.lists a1 n1 c1 a2 n2 c2 a3 n3 c3) from ⟨HX.out.header, HX.out.block, (rds_n r1).2.1, (rds_n r2).2.1, (rds_n r3).2.1⟩)
  have t := O.tch
  have z1 := g1.size; have z2 := g2.size; have z3 := g3.size; have z4 := t.size
  rw [hS] at d1
  have e2 : ∀ d, a2 = some d → S ≤ d.block := fun d h => by have := d2 d h; omega
  have e3 : ∀ d, a3 = some d → S ≤ d.block := fun d h => by have := d3 d h; omega
  have s1 := ((r1.grown g2).grown g3).tch t (fun a c _ e => by injection e with e _ _; have := d1 a e; omega)
  have s2 := (r2.grown g3).tch t (fun a c _ e => by injection e with e _ _; have := e2 a e; omega)
  have s3 := r3.tch t (fun a c _ e => by injection e with e _ _; have := e3 a e; omega)
  have q1 := rds_in s1; have q2 := rds_in s2; have q3 := rds_in s3
  have zs : w0.heap.size ≤ S := by rw [← hS]; exact HSZ.out
  have g0 : w0.grownBy w none := (G0.out.join t).grown (fun _ h => h.elim)
  have hz : LtR.of w.heap.size w (y.lists a1 n1 c1 a2 n2 c2 a3 n3 c3) l ∧ LtR.inn (fun b => w0.heap.size ≤ b ∧ b < w.heap.size) (y.lists a1 n1 c1 a2 n2 c2 a3 n3 c3) := by
    obtain ⟨k1, k2, k3⟩ := HN.out
    have h := HO.out
    subst k1 k2 k3
    exact ⟨⟨h.header, h.height, h.round, h.block, s1.mono (by omega), s2.mono (by omega), s3.mono (by omega)⟩,
      ⟨fun a hn e => ⟨by have := d1 a e; omega, by have := q1 a hn e; omega⟩, fun a hn e => ⟨by have := e2 a e; omega, by have := q2 a hn e; omega⟩, fun a hn e => ⟨by have := e3 a e; omega, by have := q3 a hn e; omega⟩⟩⟩
  obtain ⟨z, hzz⟩ : ∃ z, (y.lists a1 n1 c1 a2 n2 c2 a3 n3 c3) = z := ⟨_, rfl⟩
  rw [hzz] at O HY hz
  have HZ := Lib.hid hz; have G1 := Lib.hid g0
  have H1 := Lib.hid (H.out.grown g0)
  have BI := Lib.hid (O.at_ 0 rfl)
  have hpb : p ≠ bi := fun e => by have := H.out.blk.lt; rcases O.lie 0 rfl with q | q; omega; have := q.1.resolve_right id; omega
  have hbb : bm ≠ bi := fun e => by have := H.out.map.lt; rcases O.lie 0 rfl with q | q; omega; have := q.1.resolve_right id; omega
  have HNE := Lib.hid (show p ≠ bi ∧ bm ≠ bi from ⟨hpb, hbb⟩)
  have O2 := (OwF.start (fun b => b = p) w).add H1.out.blk rfl (by simp)
  clear t z1 z2 z3 z4 e2 e3 s1 s2 s3 q1 q2 q3 zs g0 hz hzz hpb hbb O r1 r2 r3 d1 d2 d3 g1 g2 g3 hS hbi G0
  go_upto_region 3 with (first | ((with_reducible refine @wpList_at _ _ _ _ _ _ _ (.load 31 (.tmp 3)) rfl ?_); refine wpList_load_part rfl 31 _ rfl bi 0 rfl z.cells _ BI.out.row Tryz.underlying31 rfl (sizeLt _ HY.out) ?_) | ((with_reducible refine @wpList_at _ _ _ _ _ _ _ (.store 31 (.tmp 21) (.tmp 19)) rfl ?_); refine wpList_of_store_part 31 _ _ rfl O2 0 p 3 rfl z.cells (clCells c x bm) _ rfl rfl (by rw [cl_len c H1.out.wf, z.cells_length HY.out]; decide) (LtR_one _) (sizeLt _ HY.out) rfl ?_; clear O2; intro w O2; simp only [List.set_cons_zero] at O2; rw [cl_put c H1.out.wf HY.out] at O2))
  have hz2 := HZ.out.1
  have HT2 := Lib.hid O2.tch
  have hm2 := ownsMap_tch H1.out.map O2.tch (fun e => H1.out.ne e.symm)
  have hgw : w.grownBy w.drew none := dr_grown w 1
  have hwl := HFI.out.wf.header
  have hk : i64R z.header.height := by rw [hz2.header]; exact hwl.height
  obtain ⟨w4, hrun, hm4, ht4⟩ := hm2.drew.store intmap_keyed Tryz.underlying85 (Nat.lt_of_le_of_lt H.out.room (by unfold maxLen; decide)) (i64_key _ hk) (show heldV (.agg (Lib.byteCells z.header.app).toArray) = some (.held _, []) from rfl)
  have HRUN := Lib.hid hrun; have HM4 := Lib.hid hm4; have HT4 := Lib.hid ht4.grown
  have BI2 := Lib.hid ((O2.tch.blk BI.out (fun e => HNE.out.1 e.symm)).grown hgw (by simp))
  have HL := Lib.hid (show z.header.app.length = 32 by rw [hz2.header]; exact hwl.app)
  clear hz2 hm2 hgw hwl hk hrun hm4 ht4
  replace O2 := O2.drew
  refine wp_region_J (rdf [(3, p, 203, [(.map (some bm))]), (6, bi, 1, [(.int .i64 z.header.height)]), (9, bi, 131, (Lib.byteCells z.header.app))]) [10] (by kernel_rfl) (RdA.cons (O2.cellr (n := 0) rfl (cl_get (c.take l) HY.out bm).1) (RdA.cons (BI2.out.cellr rfl) (RdA.cons (LtR.app_at0 HY.out BI2.out.row) RdA.nil))) (fun hH => ?_)
  refine jp 0 ((.pointer (some ⟨p, 0, none⟩))) (Still.all hH) ?_
  simp only [Act.put, jq1, jq4]
  refine jp 1 ((.pointer (some ⟨p, 0, none⟩))) (Still.all hH) ?_
  simp only [Act.put, jq1]
  refine jp 2 ((.pointer (some ⟨p, 203, none⟩))) (Still.all hH) ?_
  simp only [Act.put, jq1, jq2, jq3]
  refine jr 0 3 ((.map (some bm))) rfl rfl (yields_cell (by rfl) 85 _ rfl p 203 rfl (.map (some bm)) _ (fun W h => h) Tryz.underlying85 rfl) (Still.all hH) ?_
  simp only [Act.put, jq1, jq2, jq3, jq4, jq5, jq6]
  refine jp 4 ((.pointer (some ⟨bi, 0, none⟩))) (Still.all hH) ?_
  simp only [Act.put, jq1, jq4]
  refine jp 5 ((.pointer (some ⟨bi, 1, none⟩))) (Still.all hH) ?_
  simp only [Act.put, jq1, jq2, jq3, jq4, jq5, jq6]
  refine jr 1 6 ((.int .i64 z.header.height)) rfl rfl (yields_cell (by rfl) 3 _ rfl bi 1 rfl (.int .i64 z.header.height) _ (fun W h => h) Tryz.underlying3 rfl) (Still.all hH) ?_
  simp only [Act.put, jq1, jq2, jq3, jq4, jq5, jq6]
  refine jp 7 ((.pointer (some ⟨bi, 0, none⟩))) (Still.all hH) ?_
  simp only [Act.put, jq1, jq2, jq3, jq4, jq5, jq6]
  refine jp 8 ((.pointer (some ⟨bi, 131, none⟩))) (Still.all hH) ?_
  simp only [Act.put, jq1, jq2, jq3, jq4, jq5, jq6]
  refine jr 2 9 ((.agg ((Lib.byteCells z.header.app)).toArray)) rfl rfl (yieldsIf_load_mid (by rfl) 23 _ rfl bi 131 rfl (Lib.byteCells z.header.app) _ (fun W h => h) Tryz.underlying23 rfl (sizeH _ (by rw [Lib.byteCells_length, HL.out]))) (Still.all hH) ?_
  simp only [Act.put, jq1, jq2, jq3, jq4, jq5, jq6]
  refine wpAnyJ_ready (rs := [10]) (by kernel_rfl) (by simp) ?_
  refine AllJ.turn rfl (by rfl) (by rfl) (fun K hK => ?_) (AllJ.nil)
  refine wp_mapPut 85 _ _ _ rfl rfl rfl rfl HRUN.out ?_
  simp only [Act.put, jq1, jq2, jq3]
  refine hK.out _ _ (waits_all (by kernel_rfl)) ?_
  clear hK K hH
  refine wpAnyJ_done (by kernel_rfl) ?_ _
  go_wp2_with fail
  go_end0
  have h1 := H1.out; have hz := HZ.out; have t2 := HT2.out; have g4 := HT4.out
  have t4 : Tch (fun b => b = bm) w.drew w4 := Tch.of_grown1 g4 rfl
  have t3 : Tch (fun b => b = bm) w w4 := ⟨t4.os, t4.tape, t4.output, t4.size, t4.block⟩
  have pl := H.out.blk.lt; have bl := H.out.map.lt; have hne := H.out.ne
  have k1 : z.of w4.heap.size w4 l := (((hz.1.tch t2 hz.2 (fun b hb e => by have := hb.1; omega)).mono t2.size).tch t3 hz.2 (fun b hb e => by have := hb.1; omega)).mono t3.size
  have k2 : w4.ownsMap Tryz.prog 3 heldV bm (c.take l).roots.length (rootsW (c.take l).roots) := by
    have k := HM4.out
    rw [hz.1.header] at k
    exact k
  have k3 := t4.blk (O2.at_ 0 rfl) hne
  have zz := t2.size; have zy := t3.size; have zx := G1.out.size
  exact ⟨rfl, fun b => w0.heap.size ≤ b ∧ b < _, z, ⟨k3, k1, hz.2, HFI.out, k2, hne, fun b hb => ⟨by have := hb.2; omega, by have := hb.1; omega, by have := hb.1; omega⟩, H.out.ok.take HFI.out.wf, HRM.out⟩,
    (Tch.of_grown (F := fun b => b = p ∨ b = bm) G1.out).trans ((t2.mono (G := fun b => b = p ∨ b = bm) (fun b hb _ => .inl hb)).trans (t3.mono (G := fun b => b = p ∨ b = bm) (fun b hb _ => .inr hb)) (fun b hb _ => hb)) (fun b hb _ => hb), fun b hb => hb.1⟩

section
variable {P : Program} {ops : Array Oper} {rest : List Oper} {o : Oper} {a : Act} {w : World} {Q : Exit → Act → World → Prop}
theorem wpList_look (t : TypeId) (m x : Operand) (c : Bool) (ho : o.op = .lookup t m x c) {mv kv u : Value} (hm : a.eval m = mv) (hx : a.eval x = kv) (hrun : (Instr.lookup t mv kv c).run P w = .ok u w) (hgd : Region.wanted o (yielded ops a.tmps) = true)
    (h : wpList P ops Q rest (a.put o.dst u) w) : wpList P ops Q (o :: rest) a w := by
  refine wpList_wanted hgd fun K hK => ?_
  unfold Oper.wp execOp
  simp only [ho, hm, hx, Sem.run_bind, Sem.run_pure, Result.andThen_ok, hrun]
  exact hK _ _ h
end
theorem hash_szz : (Tryz.prog.info? 23).map (·.size) = some ZH.length := by kernel_rfl
theorem ZH_bytes : Lib.byteCells (List.replicate 32 0) = ZH := by kernel_rfl

theorem cHeight_nil (w : World) : Calls Tryz.prog 24 #[.pointer none] w fun e w' => e = .returned (.int .i64 0) ∧ w.grownBy w' none := by
  go_enter Tryz.func24, Tryz.ntmps24
  go_wp2
  go_ret
  exact ⟨rfl, gb_refl _⟩
theorem cChain_nil (w : World) : Calls Tryz.prog 34 #[.pointer none] w fun e w' => e = .returned (.string ⟨#[]⟩) ∧ w.grownBy w' none := by
  go_enter Tryz.func34, Tryz.ntmps34
  go_wp2
  go_ret
  exact ⟨rfl, gb_refl _⟩
theorem cFrozen_nil (w : World) : Calls Tryz.prog 18 #[.pointer none] w fun e w' => e = .returned (.bool false) ∧ w.grownBy w' none := by
  go_enter Tryz.func18, Tryz.ntmps18
  go_wp2
  go_ret
  exact ⟨rfl, gb_refl _⟩
theorem cCopy_nil (w : World) : Calls Tryz.prog 20 #[.pointer none] w fun e w' => e = .returned (.pointer none) ∧ w.grownBy w' none := by
  go_enter Tryz.func20, Tryz.ntmps20
  go_wp2
  go_ret
  exact ⟨rfl, gb_refl _⟩
theorem cRoot_nil (k : Int) (w : World) : Calls Tryz.prog 23 #[.pointer none, .int .i64 k] w fun e w' => e = .returned (.tuple #[.agg ZH.toArray, .int .i64 1]) ∧ w.grownBy w' none := by
  have O := OwF.start (fun _ => False) w
  go_enter Tryz.func23, Tryz.ntmps23
  go_wp2_with (first | ((with_reducible refine @wpList_at _ _ _ _ _ _ _ (.alloc 23) rfl ?_); refine @wpList_of_alloc _ _ _ _ _ _ _ _ _ _ 23 rfl ZH ZH_info O rfl ?_; clear O; intro br w O) | ((with_reducible refine @wpList_at _ _ _ _ _ _ _ (.build 23 #[]) rfl ?_); refine wpList_build_eq rfl 23 _ rfl [] (by kernel_rfl) ZH bHash0 ?_) | ((with_reducible refine @wpList_at _ _ _ _ _ _ _ (.store 23 (.tmp 4) (.tmp 10)) rfl ?_); refine @wpList_of_store _ _ _ _ _ _ _ _ _ _ 23 (.tmp 4) (.tmp 10) rfl O 0 br rfl ZH ZH _ rfl rfl (by rfl) ZH_one hash_szz rfl ?_; clear O; intro w O; simp only [List.set_cons_zero] at O))
  refine bodyPost_ret (results_cell_tmp rfl _ _ ⟨br, 0, none⟩ _ _ rfl rfl (run_loadVar_part _ _ _ 23 ZH _ (O.row_of (g := br) (T := 23) (by simp)) Tryz.underlying23 rfl hash_szz)) rfl ?_
  exact ⟨rfl, O.tch.grown (fun _ h => h.elim)⟩
theorem cUpdate_nil (x : LtR) (now : Nat) (w : World) : Calls Tryz.prog 21 #[.pointer none, .agg x.cells.toArray, .float .f64 now] w fun e w' => e = .returned (.int .i64 1) ∧ w.grownBy w' none := by
  have O := OwF.start (fun _ => False) w
  go_enter Tryz.func21, Tryz.ntmps21
  go_wp2_with (first | ((with_reducible refine @wpList_at _ _ _ _ _ _ _ (.box 31 (.tmp 1)) rfl ?_); refine @wpList_of_box _ _ _ _ _ _ _ _ _ _ 31 (.tmp 1) rfl x.cells rfl O rfl ?_; clear O; intro bl w O))
  go_ret
  exact ⟨rfl, O.tch.grown (fun _ h => h.elim)⟩
theorem cBlame_nil (x : LtR) (w : World) : Calls Tryz.prog 19 #[.pointer none, .agg x.cells.toArray] w fun e w' => e = .returned (.int .i64 1) ∧ w.grownBy w' none := by
  have O := OwF.start (fun _ => False) w
  go_enter Tryz.func19, Tryz.ntmps19
  go_wp2_with (first | ((with_reducible refine @wpList_at _ _ _ _ _ _ _ (.box 31 (.tmp 1)) rfl ?_); refine @wpList_of_box _ _ _ _ _ _ _ _ _ _ 31 (.tmp 1) rfl x.cells rfl O rfl ?_; clear O; intro bl w O))
  go_ret
  exact ⟨rfl, O.tch.grown (fun _ h => h.elim)⟩
theorem cMember_nil (k : Int) (key value : ByteArray) (sz : Int) (a : Option Addr) (n m : Nat) (w : World) : Calls Tryz.prog 14 #[.pointer none, .int .i64 k, .string key, .string value, .agg #[.int .i64 sz, .slice a n m]] w fun e w' => e = .returned (.int .i64 1) ∧ w.grownBy w' none := by
  have O := OwF.start (fun _ => False) w
  have CR := Lib.hid (fun w => cRoot_nil k w)
  go_enter Tryz.func14, Tryz.ntmps14
  go_wp2_with (first | ((with_reducible refine @wpList_at _ _ _ _ _ _ _ (.box 46 (.tmp 4)) rfl ?_); refine @wpList_of_box _ _ _ _ _ _ _ _ _ _ 46 (.tmp 4) rfl [.int .i64 sz, .slice a n m] rfl O rfl ?_; clear O; intro bp w O))
  refine (CR.out _).mono ?_
  rintro e w ⟨rfl, g⟩
  replace O := O.call g
  clear g
  go_wp2_with (first | ((with_reducible refine @wpList_at _ _ _ _ _ _ _ (.alloc 23) rfl ?_); refine @wpList_of_alloc _ _ _ _ _ _ _ _ _ _ 23 rfl ZH ZH_info O rfl ?_; clear O; intro bv w O) | ((with_reducible refine @wpList_at _ _ _ _ _ _ _ (.store 23 (.tmp 11) (.tmp 20)) rfl ?_); refine @wpList_of_store _ _ _ _ _ _ _ _ _ _ 23 (.tmp 11) (.tmp 20) rfl O 0 bv rfl ZH ZH _ rfl rfl (by rfl) ZH_one hash_szz rfl ?_; clear O; intro w O; simp only [List.set_cons_zero] at O))
  go_ret
  exact ⟨rfl, O.tch.grown (fun _ h => h.elim)⟩
theorem cAbsent_nil (k : Int) (key : ByteArray) (sz : Int) (a : Option Addr) (n m : Nat) (w : World) : Calls Tryz.prog 15 #[.pointer none, .int .i64 k, .string key, .agg #[.int .i64 sz, .slice a n m]] w fun e w' => e = .returned (.int .i64 1) ∧ w.grownBy w' none := by
  have O := OwF.start (fun _ => False) w
  have CR := Lib.hid (fun w => cRoot_nil k w)
  go_enter Tryz.func15, Tryz.ntmps15
  go_wp2_with (first | ((with_reducible refine @wpList_at _ _ _ _ _ _ _ (.box 46 (.tmp 3)) rfl ?_); refine @wpList_of_box _ _ _ _ _ _ _ _ _ _ 46 (.tmp 3) rfl [.int .i64 sz, .slice a n m] rfl O rfl ?_; clear O; intro bp w O))
  refine (CR.out _).mono ?_
  rintro e w ⟨rfl, g⟩
  replace O := O.call g
  clear g
  go_wp2_with (first | ((with_reducible refine @wpList_at _ _ _ _ _ _ _ (.alloc 23) rfl ?_); refine @wpList_of_alloc _ _ _ _ _ _ _ _ _ _ 23 rfl ZH ZH_info O rfl ?_; clear O; intro bv w O) | ((with_reducible refine @wpList_at _ _ _ _ _ _ _ (.store 23 (.tmp 9) (.tmp 18)) rfl ?_); refine @wpList_of_store _ _ _ _ _ _ _ _ _ _ 23 (.tmp 9) (.tmp 18) rfl O 0 bv rfl ZH ZH _ rfl rfl (by rfl) ZH_one hash_szz rfl ?_; clear O; intro w O; simp only [List.set_cons_zero] at O))
  go_ret
  exact ⟨rfl, O.tch.grown (fun _ h => h.elim)⟩

section
variable {I : Nat → Prop} {w0 : World} {p bm : Nat} {x : LtR} {c : ClD}
theorem cHeight_ok (h : ClRep 87 I w0 p bm x c) : Calls Tryz.prog 24 #[.pointer (some ⟨p, 0, none⟩)] w0 fun e w' => e = .returned (.int .i64 c.front.header.height) ∧ w0.grownBy w' none := by
  have c4 := h.height
  clear h
  go_enter Tryz.func24, Tryz.ntmps24
  go_wp2
  go_ret
  exact ⟨rfl, gb_refl _⟩
theorem cChain_ok (h : ClRep 87 I w0 p bm x c) : Calls Tryz.prog 34 #[.pointer (some ⟨p, 0, none⟩)] w0 fun e w' => e = .returned (.string c.front.header.chain) ∧ w0.grownBy w' none := by
  have c4 := h.chain
  clear h
  go_enter Tryz.func34, Tryz.ntmps34
  go_wp2
  go_ret
  exact ⟨rfl, gb_refl _⟩
theorem cFrozen_ok (h : ClRep 87 I w0 p bm x c) : Calls Tryz.prog 18 #[.pointer (some ⟨p, 0, none⟩)] w0 fun e w' => e = .returned (.bool c.cold) ∧ w0.grownBy w' none := by
  have c4 := h.cold
  clear h
  go_enter Tryz.func18, Tryz.ntmps18
  go_wp2
  go_ret
  exact ⟨rfl, gb_refl _⟩
set_option maxHeartbeats 2000000 in
theorem cRoot_ok (h : ClRep 87 I w0 p bm x c) (k : Int) (hk : i64R k) : Calls Tryz.prog 23 #[.pointer (some ⟨p, 0, none⟩), .int .i64 k] w0 fun e w' => e = .returned (.tuple #[.agg (Lib.byteCells (c.root k).1).toArray, .int .i64 (c.root k).2]) ∧ w0.grownBy w' none := by
  have O := OwF.start (fun _ => False) w0
  have CF := Lib.hid (fun w (g : w0.grownBy w none) => (h.grown g).roots)
  have CD := Lib.hid (fun w (g : w0.grownBy w none) => (h.grown g).cold)
  have LK := Lib.hid (fun w (g : w0.grownBy w none) => (h.grown g).look Tryz.underlying85 (by rw [ZH_bytes]; exact Tryz.zeroValue23 w) k hk)
  have HL := Lib.hid (show ((rootsAt c.roots k).getD (List.replicate 32 0)).length = 32 by
    cases e : rootsAt c.roots k with
    | none => rfl
    | some a => exact rootsAt_len (fun p hp => (h.ok.roots p hp).1) e)
  have HR := Lib.hid (show c.root k = match rootsAt c.roots k with
    | none => (List.replicate 32 0, 191)
    | some a => if c.cold = true then (List.replicate 32 0, 191) else (a, 0) from rfl)
  obtain ⟨r, hr⟩ : ∃ r, rootsAt c.roots k = r := ⟨_, rfl⟩
  obtain ⟨cd, hcd⟩ : ∃ d, c.cold = d := ⟨_, rfl⟩
  rw [hr] at LK HL HR
  rw [hcd] at CD HR
  obtain ⟨R, hR⟩ : ∃ z, c.root k = z := ⟨_, rfl⟩
  rw [hR] at HR ⊢
  clear h hr hcd hR
  obtain ⟨isS, hi⟩ : ∃ z, r.isSome = z := ⟨_, rfl⟩
  obtain ⟨A, hA⟩ : ∃ z, r.getD (List.replicate 32 0) = z := ⟨_, rfl⟩
  rw [hi, hA] at LK
  rw [hA] at HL
  have HI := Lib.hid hi; have HA := Lib.hid hA
  clear hi hA
  go_enter Tryz.func23, Tryz.ntmps23
  go_upto_region 3 with (first | ((with_reducible refine @wpList_at _ _ _ _ _ _ _ (.alloc 23) rfl ?_); refine @wpList_of_alloc _ _ _ _ _ _ _ _ _ _ 23 rfl ZH ZH_info O rfl ?_; clear O; intro br w O))
  have c2 := CF.out _ (O.tch.grown (fun _ h => h.elim))
  go_upto_region 4 with (first | ((with_reducible refine @wpList_at _ _ _ _ _ _ _ (.lookup 85 (.tmp 15) (.tmp 16) true) rfl ?_); refine wpList_look 85 _ _ _ rfl rfl rfl (LK.out _ (O.tch.grown (fun _ h => h.elim))) rfl ?_) | ((with_reducible refine @wpList_at _ _ _ _ _ _ _ (.alloc 23) rfl ?_); refine @wpList_of_alloc _ _ _ _ _ _ _ _ _ _ 23 rfl ZH ZH_info O rfl ?_; clear O; intro bv w O) | ((with_reducible refine @wpList_at _ _ _ _ _ _ _ (.store 23 (.tmp 6) (.tmp 18)) rfl ?_); refine @wpList_of_store _ _ _ _ _ _ _ _ _ _ 23 (.tmp 6) (.tmp 18) rfl O 0 bv rfl (Lib.byteCells A) ZH _ rfl rfl (by rw [Lib.byteCells_length, HL.out]; rfl) (oneCell_bytes _) (sizeH _ (by rw [Lib.byteCells_length, HL.out])) rfl ?_; clear O; intro w O; simp only [List.set_cons_zero] at O))
  have c3 := CD.out _ (O.tch.grown (fun _ h => h.elim))
  cases isS with
  | false =>
    have hR : R = (List.replicate 32 0, 191) := by
      rw [HR.out]
      cases r with
      | none => rfl
      | some a => have := HI.out; cases this
    subst hR
    go_wp2_with (first | ((with_reducible refine @wpList_at _ _ _ _ _ _ _ (.build 23 #[]) rfl ?_); refine wpList_build_eq rfl 23 _ rfl [] (by kernel_rfl) ZH bHash0 ?_) | ((with_reducible refine @wpList_at _ _ _ _ _ _ _ (.store 23 (.tmp 4) (.tmp 28)) rfl ?_); refine @wpList_of_store _ _ _ _ _ _ _ _ _ _ 23 (.tmp 4) (.tmp 28) rfl O 1 br rfl ZH ZH _ rfl rfl (by rfl) ZH_one hash_szz rfl ?_; clear O; intro w O; simp only [List.set_cons_zero, List.set_cons_succ] at O))
    refine bodyPost_ret (results_cell_tmp rfl _ _ ⟨br, 0, none⟩ _ _ rfl rfl (run_loadVar_part _ _ _ 23 ZH _ (O.row_of (g := br) (T := 23) (by simp)) Tryz.underlying23 rfl hash_szz)) rfl ?_
    exact ⟨by first | rfl | kernel_rfl, O.tch.grown (fun _ h => h.elim)⟩
  | true =>
  have hr : r = some A := by
    cases r with
    | none => have := HI.out; cases this
    | some a => rw [← HA.out]; rfl
  have HR2 := Lib.hid (show R = if cd = true then (List.replicate 32 0, 191) else (A, 0) by rw [HR.out, hr])
  clear hr
  cases cd with
  | true =>
    have hR : R = (List.replicate 32 0, 191) := by rw [HR2.out, if_pos rfl]
    subst hR
    go_wp2_with (first | ((with_reducible refine @wpList_at _ _ _ _ _ _ _ (.build 23 #[]) rfl ?_); refine wpList_build_eq rfl 23 _ rfl [] (by kernel_rfl) ZH bHash0 ?_) | ((with_reducible refine @wpList_at _ _ _ _ _ _ _ (.store 23 (.tmp 4) (.tmp 28)) rfl ?_); refine @wpList_of_store _ _ _ _ _ _ _ _ _ _ 23 (.tmp 4) (.tmp 28) rfl O 1 br rfl ZH ZH _ rfl rfl (by rfl) ZH_one hash_szz rfl ?_; clear O; intro w O; simp only [List.set_cons_zero, List.set_cons_succ] at O))
    refine bodyPost_ret (results_cell_tmp rfl _ _ ⟨br, 0, none⟩ _ _ rfl rfl (run_loadVar_part _ _ _ 23 ZH _ (O.row_of (g := br) (T := 23) (by simp)) Tryz.underlying23 rfl hash_szz)) rfl ?_
    exact ⟨by first | rfl | kernel_rfl, O.tch.grown (fun _ h => h.elim)⟩
  | false =>
  have hR : R = (A, 0) := by rw [HR2.out, if_neg (by decide)]
  subst hR
  go_wp2_with (first | ((with_reducible refine @wpList_at _ _ _ _ _ _ _ (.load 23 (.tmp 6)) rfl ?_); refine @wpList_of_whole _ _ _ _ _ _ _ _ _ _ 23 (.tmp 6) rfl O 0 bv rfl (Lib.byteCells A) _ rfl _ Tryz.underlying23 rfl (sizeH _ (by rw [Lib.byteCells_length, HL.out])) rfl ?_) | ((with_reducible refine @wpList_at _ _ _ _ _ _ _ (.store 23 (.tmp 4) (.tmp 29)) rfl ?_); refine @wpList_of_store _ _ _ _ _ _ _ _ _ _ 23 (.tmp 4) (.tmp 29) rfl O 1 br rfl (Lib.byteCells A) ZH _ rfl rfl (by rw [Lib.byteCells_length, HL.out]; rfl) (oneCell_bytes _) (sizeH _ (by rw [Lib.byteCells_length, HL.out])) rfl ?_; clear O; intro w O; simp only [List.set_cons_zero, List.set_cons_succ] at O))
  refine bodyPost_ret (results_cell_tmp rfl _ _ ⟨br, 0, none⟩ _ _ rfl rfl (run_loadVar_part _ _ _ 23 (Lib.byteCells A) _ (O.row_of (g := br) (T := 23) (by simp)) Tryz.underlying23 rfl (sizeH _ (by rw [Lib.byteCells_length, HL.out])))) rfl ?_
  exact ⟨rfl, O.tch.grown (fun _ h => h.elim)⟩

end

def kHeadC : List Value := [.string ⟨#[]⟩, .int .i64 0, .int .i64 0] ++ List.replicate 160 (.int .u8 0)
theorem head_flatC : flat Tryz.prog 20 25 = some kHeadC := by kernel_rfl
theorem HeaderD.fitC (v : HeaderD) (h : v.wf) : Fits kHeadC v.cells = true := by
  have e : v.cells = [.string v.chain, .int .i64 v.height, .int .i64 v.time] ++ Lib.byteCells (v.last ++ v.set ++ v.next ++ v.data ++ v.app) := by simp [HeaderD.cells, Lib.byteCells]
  have hb := Fits.bytes (v.last ++ v.set ++ v.next ++ v.data ++ v.app)
  rw [show (v.last ++ v.set ++ v.next ++ v.data ++ v.app).length = 160 by simp [h.last, h.set, h.next, h.data, h.app]] at hb
  rw [e]
  exact Fits.append rfl hb
theorem ZHd_info : (Tryz.prog.info? 25).map (fun i => i.zero.map (fun v => v.cells)) = some (some kHeadC.toArray) := by kernel_rfl
/-- what an update leaves -/
def UpPost (w0 : World) (p bm : Nat) (I : Nat → Prop) (c : ClD) (r : Int) (e : Ending) (w' : World) : Prop :=
  e = .returned (.int .i64 r) ∧ ∃ (I' : Nat → Prop) (z : LtR), ClRep 87 I' w' p bm z c ∧ Tch (fun b => b = p ∨ b = bm) w0 w' ∧ ∀ b, I' b → I b ∨ w0.heap.size ≤ b
set_option maxHeartbeats 8000000 in
theorem cUpdate_ok {I : Nat → Prop} {w0 : World} {p bm : Nat} {x : LtR} {c : ClD} (h : ClRep 87 I w0 p bm x c) (y : LtR) (l : LightD) (now : Nat) (ho : y.of w0.heap.size w0 l) (hl : l.mid) (hnow : now < 18446744073709551616) (hroom : c.roots.length + 1 ≤ 100000) (hR : RowAt w0 1 0 (wCells rootsL)) :
    Calls Tryz.prog 21 #[.pointer (some ⟨p, 0, none⟩), .agg y.cells.toArray, .float .f64 now] w0 (UpPost w0 p bm I (c.update l now).1 (c.update l now).2) := by
  have O := OwF.start (fun _ => False) w0
  have HX := Lib.hid (ho.wf hl.wf); have H := Lib.hid h; have XW := Lib.hid h.wf
  have CF := Lib.hid (fun w (g : w0.grownBy w none) => (h.grown g).cold)
  have CFR := Lib.hid (fun w (g : w0.grownBy w none) => (h.grown g).frontAt)
  have COP := Lib.hid (fun w (g : w0.grownBy w none) => (h.grown g).opt)
  have CS := Lib.hid (fun w (g : w0.grownBy w none) => Step_ok x y c.front l now c.o w h.fit.wf hl.wf ((h.grown g).of_) (ho.up g (Nat.le_refl _)) hnow h.ok.o (Nat.le_trans hl.seals (by decide)) (by have := h.fit.chain; unfold maxLen; omega) (hR.grown g (by simp)))
  have CT := Lib.hid (fun w (g : w0.grownBy w none) => take_ok (h.grown g) y l (ho.up g (Nat.le_refl _)) hl hroom)
  have HU := Lib.hid (show c.update l now = if c.cold = true then (c, 155) else if vstepL c.front l now c.o = 0 then (c.take l, 0) else (c, vstepL c.front l now c.o) from rfl)
  obtain ⟨cd, hcd⟩ : ∃ d, c.cold = d := ⟨_, rfl⟩
  obtain ⟨s, hs⟩ : ∃ d, vstepL c.front l now c.o = d := ⟨_, rfl⟩
  obtain ⟨U, hU⟩ : ∃ d, c.update l now = d := ⟨_, rfl⟩
  obtain ⟨OC, hOC⟩ : ∃ d, c.o.cells = d := ⟨_, rfl⟩
  obtain ⟨c2, hc2⟩ : ∃ d, c.take l = d := ⟨_, rfl⟩
  have SZO := Lib.hid (show (Tryz.prog.info? 43).map (·.size) = some OC.length by rw [← hOC]; exact sizeOpt)
  rw [hcd, hs, hU, hc2] at HU; rw [hcd] at CF; rw [hs, hOC] at CS; rw [hc2] at CT; rw [hU]; rw [hOC] at COP
  clear h ho hl hnow hroom hR hcd hs hU hOC hc2
  go_enter Tryz.func21, Tryz.ntmps21
  go_upto_region 3 with (first | ((with_reducible refine @wpList_at _ _ _ _ _ _ _ (.box 31 (.tmp 1)) rfl ?_); refine @wpList_of_box _ _ _ _ _ _ _ _ _ _ 31 (.tmp 1) rfl y.cells rfl O rfl ?_; clear O; intro bl w O))
  have c4 := CF.out _ (O.tch.grown (fun _ h => h.elim))
  cases cd with
  | true =>
    have hv := HU.out; rw [if_pos rfl] at hv; subst hv
    go_wp2_with fail
    go_ret
    exact ⟨rfl, I, x, H.out.grown (O.tch.grown (fun _ h => h.elim)), Tch.of_grown (O.tch.grown (fun _ h => h.elim)), fun b hb => .inl hb⟩
  | false =>
  have hv := HU.out; rw [if_neg (by decide)] at hv; replace HU := Lib.hid hv; clear hv
  go_upto_region 5 with (fail)
  clear c4
  replace O := O.drew
  refine wp_region_J (rdf [(3, p, 3, x.cells), (4, bl, 0, y.cells), (9, p, 0, OC)]) [10] (by kernel_rfl) (RdA.cons (CFR.out _ (O.tch.grown (fun _ h => h.elim))) (RdA.cons (O.row_of (g := bl) (T := 31) (by simp)) (RdA.cons (COP.out _ (O.tch.grown (fun _ h => h.elim))) RdA.nil))) (fun hH => ?_)
  refine jp 0 ((.pointer (some ⟨p, 0, none⟩))) (Still.all hH) ?_
  simp only [Act.put, jq1, jq3, jq4, jq5, jq6]
  refine jp 1 ((.pointer (some ⟨p, 0, none⟩))) (Still.all hH) ?_
  simp only [Act.put, jq1, jq2, jq3, jq4, jq5, jq6]
  refine jp 2 ((.pointer (some ⟨p, 3, none⟩))) (Still.all hH) ?_
  simp only [Act.put, jq1, jq2, jq3, jq4, jq5, jq6]
  refine jr 0 3 ((.agg (x.cells).toArray)) rfl rfl (yieldsIf_load_mid (by rfl) 31 _ rfl p 3 rfl x.cells _ (fun W h => h) Tryz.underlying31 rfl (sizeLt _ XW.out)) (Still.all hH) ?_
  simp only [Act.put, jq1, jq2, jq3, jq4, jq5, jq6]
  refine jr 1 4 ((.agg (y.cells).toArray)) rfl rfl (yieldsIf_load_mid (by rfl) 31 _ rfl bl 0 rfl y.cells _ (fun W h => h) Tryz.underlying31 rfl (sizeLt _ HX.out)) (Still.all hH) ?_
  simp only [Act.put, jq1, jq2, jq3, jq4, jq5, jq6]
  refine jp 5 ((.float .f64 now)) (Still.all hH) ?_
  simp only [Act.put, jq1, jq2, jq3, jq4, jq5, jq6]
  refine jp 6 ((.pointer (some ⟨p, 0, none⟩))) (Still.all hH) ?_
  simp only [Act.put, jq1, jq2, jq3, jq4, jq5, jq6]
  refine jp 7 ((.pointer (some ⟨p, 0, none⟩))) (Still.all hH) ?_
  simp only [Act.put, jq1, jq2, jq3, jq4, jq5, jq6]
  refine jp 8 ((.pointer (some ⟨p, 0, none⟩))) (Still.all hH) ?_
  simp only [Act.put, jq1, jq2, jq3, jq4, jq5, jq6]
  refine jr 2 9 ((.agg (OC).toArray)) rfl rfl (yieldsIf_load_mid (by rfl) 43 _ rfl p 0 rfl OC _ (fun W h => h) Tryz.underlying43 rfl SZO.out) (Still.all hH) ?_
  simp only [Act.put, jq1, jq2, jq3, jq4, jq5, jq6]
  refine wpAnyJ_ready (rs := [10]) (by kernel_rfl) (by simp) ?_
  refine AllJ.keep rfl (by rfl) (by rfl) (fun K hK => ?_) (AllJ.nil)
  refine wp_call 47 _ _ (by rfl) (enters Tryz.func47 (by kernel_rfl) rfl) (by rfl) (CS.out _ (O.tch.grown (fun _ h => h.elim))) ?_
  rintro e u ⟨rfl, g⟩
  refine ⟨_, rfl, ?_⟩
  replace O := O.call g
  simp only [Act.put, jq1, jq2, jq3, jq4, jq5, jq6]
  refine hK.out _ _ (RdA.grown hH g) ?_
  replace hH := RdA.grown hH g
  clear hK K
  clear g
  refine jp 11 ((.int .i64 s)) (Still.all hH) ?_
  simp only [Act.put, jq1, jq2, jq3, jq4, jq5, jq6]
  refine wpAnyJ_done (by kernel_rfl) ?_ _
  clear hH
  by_cases c1 : s = 0
  case neg =>
    have hv := HU.out; rw [if_neg c1] at hv; subst hv
    have d1 : (s == 0) = false := by simpa using c1
    have HC1 := Lib.hid c1
    clear c1
    go_wp2_with fail
    go_ret
    exact ⟨rfl, I, x, H.out.grown (O.tch.grown (fun _ h => h.elim)), Tch.of_grown (O.tch.grown (fun _ h => h.elim)), fun b hb => .inl hb⟩
  subst c1
  have hv := HU.out; rw [if_pos rfl] at hv; subst hv
  go_wp2_with (first | ((with_reducible refine @wpList_at _ _ _ _ _ _ _ (.load 31 (.tmp 4)) rfl ?_); refine @wpList_of_whole _ _ _ _ _ _ _ _ _ _ 31 (.tmp 4) rfl O 0 bl rfl y.cells _ rfl _ Tryz.underlying31 rfl (sizeLt _ HX.out) rfl ?_) | ((with_reducible refine @wpList_at _ _ _ _ _ _ _ (.load 31 (.tmp 3)) rfl ?_); refine @wpList_of_whole _ _ _ _ _ _ _ _ _ _ 31 (.tmp 3) rfl O 0 bl rfl y.cells _ rfl _ Tryz.underlying31 rfl (sizeLt _ HX.out) rfl ?_))
  refine (CT.out _ (O.tch.grown (fun _ h => h.elim))).mono ?_
  rintro e w2 ⟨rfl, I', z, h2, t2, hI'⟩
  have H2 := Lib.hid h2; have T2 := Lib.hid t2; have HI2 := Lib.hid hI'
  clear h2 t2 hI'
  go_wp2_with fail
  go_ret
  have gz := (O.tch.grown (fun _ h => h.elim)); have := gz.size
  exact ⟨rfl, I', z, H2.out, (Tch.of_grown gz).trans T2.out (fun b hb _ => hb), fun b hb => .inr (by have := HI2.out b hb; omega)⟩

def BlPost (w0 : World) (p bm : Nat) (I : Nat → Prop) (x : LtR) (c : ClD) (r : Int) (e : Ending) (w' : World) : Prop :=
  e = .returned (.int .i64 r) ∧ ClRep 87 I w' p bm x c ∧ Tch (fun b => b = p) w0 w'
theorem cl_cold (c : ClD) {x : LtR} (hx : x.wf) (bm : Nat) : (clCells c x bm).set 204 (.bool true) = clCells { c with cold := true } x bm := by
  have h := x.cells_length hx
  have ho : c.o.cells.length = 3 := rfl
  unfold clCells
  rw [List.set_append_right _ _ (by omega), List.set_append_right _ _ (by omega), ho, h]; rfl
set_option maxHeartbeats 8000000 in
theorem cBlame_ok {I : Nat → Prop} {w0 : World} {p bm : Nat} {x : LtR} {c : ClD} (h : ClRep 87 I w0 p bm x c) (y : LtR) (l : LightD) (ho : y.of w0.heap.size w0 l) (hl : l.mid) (hR : RowAt w0 1 0 (wCells rootsL)) :
    Calls Tryz.prog 19 #[.pointer (some ⟨p, 0, none⟩), .agg y.cells.toArray] w0 (BlPost w0 p bm I x (c.blame l).1 (c.blame l).2) := by
  have O := OwF.start (fun _ => False) w0
  have HX := Lib.hid (ho.wf hl.wf); have H := Lib.hid h; have XW := Lib.hid h.wf
  have CFR := Lib.hid (fun w (g : w0.grownBy w none) => LtR.header_at (h.grown g).frontAt h.wf)
  have CS := Lib.hid (fun w (g : w0.grownBy w none) => vSound_any c.front.header.chain y l w hl.wf (ho.up g (Nat.le_refl _)) (by have := h.fit.chain; unfold maxLen; omega) (hR.grown g (by simp)))
  have HU := Lib.hid (show c.blame l = if l.header.height ≠ c.front.header.height ∨ VEq l.header.cells c.front.header.cells = true ∨ soundL c.front.header.chain l ≠ 0 then (c, 171) else ({ c with cold := true }, 0) from rfl)
  have e1 := h.of_.header; have e2 := ho.header
  rw [← e1, ← e2] at HU; rw [← e1] at CS
  have Y1 := Lib.hid (show y.cells[1]? = some (.int .i64 y.header.height) from rfl)
  obtain ⟨s, hs⟩ : ∃ d, soundL x.header.chain l = d := ⟨_, rfl⟩
  obtain ⟨v, hv⟩ : ∃ d, VEq y.header.cells x.header.cells = d := ⟨_, rfl⟩
  obtain ⟨U, hU⟩ : ∃ d, c.blame l = d := ⟨_, rfl⟩
  rw [hs, hv, hU] at HU; rw [hs] at CS; rw [hU]
  have HV := Lib.hid hv
  have X0 := Lib.hid (show x.header.cells[0]? = some (.string x.header.chain) from rfl)
  have X1 := Lib.hid (show x.header.cells[1]? = some (.int .i64 x.header.height) from rfl)
  have HYL := Lib.hid (y.header.cells_length (ho.wf hl.wf).header); have HXL := Lib.hid (x.header.cells_length h.wf.header)
  clear h ho hl hR hs hU e1 e2 hv
  obtain ⟨CH, hCH⟩ : ∃ d, x.header.chain = d := ⟨_, rfl⟩
  obtain ⟨hx, hhx⟩ : ∃ d, x.header.height = d := ⟨_, rfl⟩
  obtain ⟨hy, hhy⟩ : ∃ d, y.header.height = d := ⟨_, rfl⟩
  rw [hCH] at CS X0; rw [hhx] at X1 HU; rw [hhy] at Y1 HU
  clear hCH hhx hhy
  go_enter Tryz.func19, Tryz.ntmps19
  go_upto_region 3 with (first | ((with_reducible refine @wpList_at _ _ _ _ _ _ _ (.box 31 (.tmp 1)) rfl ?_); refine @wpList_of_box _ _ _ _ _ _ _ _ _ _ 31 (.tmp 1) rfl y.cells rfl O rfl ?_; clear O; intro bl w O))
  have FR := Lib.hid (CFR.out _ (O.tch.grown (fun _ h => h.elim)))
  go_upto_region 4 with (first | ((with_reducible refine @wpList_at _ _ _ _ _ _ _ (.load 25 (.tmp 11)) rfl ?_); refine wpList_load_part rfl 25 _ rfl p (3) rfl x.header.cells _ FR.out Tryz.underlying25 rfl (x.header.size XW.out.header) ?_) | ((with_reducible refine @wpList_at _ _ _ _ _ _ _ (.alloc 25) rfl ?_); refine @wpList_of_alloc _ _ _ _ _ _ _ _ _ _ 25 rfl kHeadC ZHd_info O rfl ?_; clear O; intro bh w O) | ((with_reducible refine @wpList_at _ _ _ _ _ _ _ (.store 25 (.tmp 5) (.tmp 12)) rfl ?_); refine @wpList_of_store _ _ _ _ _ _ _ _ _ _ 25 (.tmp 5) (.tmp 12) rfl O 0 bh rfl x.header.cells kHeadC _ rfl rfl (by rw [HXL.out]; rfl) (HeaderD_one _) (x.header.size XW.out.header) rfl ?_; clear O; intro w O; simp only [List.set_cons_zero] at O))
  by_cases c1 : hy = hx
  case neg =>
    have hv := HU.out; rw [if_pos (.inl c1)] at hv; subst hv
    have d1 : (hy != hx) = true := by simpa using c1
    clear c1
    go_wp2_with (first | ((with_reducible refine @wpList_at _ _ _ _ _ _ _ (.load 3 (.tmp 14)) rfl ?_); refine @wpList_of_cell _ _ _ _ _ _ _ _ _ _ 3 (.tmp 14) rfl O 1 bl 1 rfl _ _ rfl _ Y1.out _ Tryz.underlying3 rfl rfl ?_) | ((with_reducible refine @wpList_at _ _ _ _ _ _ _ (.load 3 (.tmp 16)) rfl ?_); refine @wpList_of_cell _ _ _ _ _ _ _ _ _ _ 3 (.tmp 16) rfl O 0 bh 1 rfl _ _ rfl _ X1.out _ Tryz.underlying3 rfl rfl ?_) | ((with_reducible refine @wpList_at _ _ _ _ _ _ _ (.load 25 (.tmp 20)) rfl ?_); refine @wpList_of_part _ _ _ _ _ _ _ _ _ _ 25 (.tmp 20) rfl O 1 bl 0 rfl _ _ rfl y.header.cells _ (fun h => LtR.header_at h HX.out) Tryz.underlying25 rfl (y.header.size HX.out.header) rfl ?_) | ((with_reducible refine @wpList_at _ _ _ _ _ _ _ (.load 25 (.tmp 5)) rfl ?_); refine @wpList_of_whole _ _ _ _ _ _ _ _ _ _ 25 (.tmp 5) rfl O 0 bh rfl x.header.cells _ rfl _ Tryz.underlying25 rfl (x.header.size XW.out.header) rfl ?_) | ((with_reducible refine @wpList_at _ _ _ _ _ _ _ (.binOp .eql 25 (.tmp 21) (.tmp 22) 25) rfl ?_); refine wpList_eql_flat rfl 25 _ _ _ rfl y.header.cells x.header.cells kHeadC rfl rfl head_flatC (y.header.fitC HX.out.header) (x.header.fitC XW.out.header) rfl (by kernel_rfl) ?_; rw [HV.out]) | ((with_reducible refine @wpList_at _ _ _ _ _ _ _ (.load 9 (.tmp 26)) rfl ?_); refine @wpList_of_cell _ _ _ _ _ _ _ _ _ _ 9 (.tmp 26) rfl O 0 bh 0 rfl _ _ rfl _ X0.out _ Tryz.underlying9 rfl rfl ?_) | ((with_reducible refine @wpList_at _ _ _ _ _ _ _ (.load 31 (.tmp 3)) rfl ?_); refine @wpList_of_whole _ _ _ _ _ _ _ _ _ _ 31 (.tmp 3) rfl O 1 bl rfl y.cells _ rfl _ Tryz.underlying31 rfl (sizeLt _ HX.out) rfl ?_))
    go_ret
    exact ⟨rfl, H.out.grown (O.tch.grown (fun _ h => h.elim)), Tch.of_grown (O.tch.grown (fun _ h => h.elim))⟩
  subst c1
  have d1 : (hy != hy) = false := by simp
  cases v with
  | true =>
    have hv := HU.out; rw [if_pos (.inr (.inl rfl))] at hv; subst hv
    go_wp2_with (first | ((with_reducible refine @wpList_at _ _ _ _ _ _ _ (.load 3 (.tmp 14)) rfl ?_); refine @wpList_of_cell _ _ _ _ _ _ _ _ _ _ 3 (.tmp 14) rfl O 1 bl 1 rfl _ _ rfl _ Y1.out _ Tryz.underlying3 rfl rfl ?_) | ((with_reducible refine @wpList_at _ _ _ _ _ _ _ (.load 3 (.tmp 16)) rfl ?_); refine @wpList_of_cell _ _ _ _ _ _ _ _ _ _ 3 (.tmp 16) rfl O 0 bh 1 rfl _ _ rfl _ X1.out _ Tryz.underlying3 rfl rfl ?_) | ((with_reducible refine @wpList_at _ _ _ _ _ _ _ (.load 25 (.tmp 20)) rfl ?_); refine @wpList_of_part _ _ _ _ _ _ _ _ _ _ 25 (.tmp 20) rfl O 1 bl 0 rfl _ _ rfl y.header.cells _ (fun h => LtR.header_at h HX.out) Tryz.underlying25 rfl (y.header.size HX.out.header) rfl ?_) | ((with_reducible refine @wpList_at _ _ _ _ _ _ _ (.load 25 (.tmp 5)) rfl ?_); refine @wpList_of_whole _ _ _ _ _ _ _ _ _ _ 25 (.tmp 5) rfl O 0 bh rfl x.header.cells _ rfl _ Tryz.underlying25 rfl (x.header.size XW.out.header) rfl ?_) | ((with_reducible refine @wpList_at _ _ _ _ _ _ _ (.binOp .eql 25 (.tmp 21) (.tmp 22) 25) rfl ?_); refine wpList_eql_flat rfl 25 _ _ _ rfl y.header.cells x.header.cells kHeadC rfl rfl head_flatC (y.header.fitC HX.out.header) (x.header.fitC XW.out.header) rfl (by kernel_rfl) ?_; rw [HV.out]) | ((with_reducible refine @wpList_at _ _ _ _ _ _ _ (.load 9 (.tmp 26)) rfl ?_); refine @wpList_of_cell _ _ _ _ _ _ _ _ _ _ 9 (.tmp 26) rfl O 0 bh 0 rfl _ _ rfl _ X0.out _ Tryz.underlying9 rfl rfl ?_) | ((with_reducible refine @wpList_at _ _ _ _ _ _ _ (.load 31 (.tmp 3)) rfl ?_); refine @wpList_of_whole _ _ _ _ _ _ _ _ _ _ 31 (.tmp 3) rfl O 1 bl rfl y.cells _ rfl _ Tryz.underlying31 rfl (sizeLt _ HX.out) rfl ?_))
    go_ret
    exact ⟨rfl, H.out.grown (O.tch.grown (fun _ h => h.elim)), Tch.of_grown (O.tch.grown (fun _ h => h.elim))⟩
  | false =>
  go_wp2_with (first | ((with_reducible refine @wpList_at _ _ _ _ _ _ _ (.load 3 (.tmp 14)) rfl ?_); refine @wpList_of_cell _ _ _ _ _ _ _ _ _ _ 3 (.tmp 14) rfl O 1 bl 1 rfl _ _ rfl _ Y1.out _ Tryz.underlying3 rfl rfl ?_) | ((with_reducible refine @wpList_at _ _ _ _ _ _ _ (.load 3 (.tmp 16)) rfl ?_); refine @wpList_of_cell _ _ _ _ _ _ _ _ _ _ 3 (.tmp 16) rfl O 0 bh 1 rfl _ _ rfl _ X1.out _ Tryz.underlying3 rfl rfl ?_) | ((with_reducible refine @wpList_at _ _ _ _ _ _ _ (.load 25 (.tmp 20)) rfl ?_); refine @wpList_of_part _ _ _ _ _ _ _ _ _ _ 25 (.tmp 20) rfl O 1 bl 0 rfl _ _ rfl y.header.cells _ (fun h => LtR.header_at h HX.out) Tryz.underlying25 rfl (y.header.size HX.out.header) rfl ?_) | ((with_reducible refine @wpList_at _ _ _ _ _ _ _ (.load 25 (.tmp 5)) rfl ?_); refine @wpList_of_whole _ _ _ _ _ _ _ _ _ _ 25 (.tmp 5) rfl O 0 bh rfl x.header.cells _ rfl _ Tryz.underlying25 rfl (x.header.size XW.out.header) rfl ?_) | ((with_reducible refine @wpList_at _ _ _ _ _ _ _ (.binOp .eql 25 (.tmp 21) (.tmp 22) 25) rfl ?_); refine wpList_eql_flat rfl 25 _ _ _ rfl y.header.cells x.header.cells kHeadC rfl rfl head_flatC (y.header.fitC HX.out.header) (x.header.fitC XW.out.header) rfl (by kernel_rfl) ?_; rw [HV.out]) | ((with_reducible refine @wpList_at _ _ _ _ _ _ _ (.load 9 (.tmp 26)) rfl ?_); refine @wpList_of_cell _ _ _ _ _ _ _ _ _ _ 9 (.tmp 26) rfl O 0 bh 0 rfl _ _ rfl _ X0.out _ Tryz.underlying9 rfl rfl ?_) | ((with_reducible refine @wpList_at _ _ _ _ _ _ _ (.load 31 (.tmp 3)) rfl ?_); refine @wpList_of_whole _ _ _ _ _ _ _ _ _ _ 31 (.tmp 3) rfl O 1 bl rfl y.cells _ rfl _ Tryz.underlying31 rfl (sizeLt _ HX.out) rfl ?_))
  refine (CS.out _ (O.tch.grown (fun _ h => h.elim))).mono ?_
  rintro e w ⟨rfl, g⟩
  replace O := O.call g
  clear g
  by_cases c2 : s = 0
  case neg =>
    have hv := HU.out; rw [if_pos (.inr (.inr c2))] at hv; subst hv
    have d2 : (s != 0) = true := by simpa using c2
    clear c2
    go_wp2_with fail
    go_ret
    exact ⟨rfl, H.out.grown (O.tch.grown (fun _ h => h.elim)), Tch.of_grown (O.tch.grown (fun _ h => h.elim))⟩
  subst c2
  have hv := HU.out; rw [if_neg (by rintro (h | h | h); exact h rfl; cases h; exact h rfl)] at hv; subst hv
  have H2 := Lib.hid (H.out.grown (O.tch.grown (fun _ h => h.elim)))
  have G2 := Lib.hid (O.tch.grown (fun _ h => h.elim))
  clear O
  have O := (OwF.start (fun b => b = p) w).add H2.out.blk rfl (by simp)
  go_wp2_with (first | ((with_reducible refine @wpList_at _ _ _ _ _ _ _ (.store 4 (.tmp 34) (.const (.bool true))) rfl ?_); refine @wpList_of_store_cell _ _ _ _ _ _ _ _ _ _ 4 (.tmp 34) (.const (.bool true)) rfl O 0 p 204 rfl (.bool true) rfl (by kernel_rfl) _ _ rfl (by rw [cl_len c XW.out]; decide) rfl rfl ?_; clear O; intro w O; simp only [List.set_cons_zero] at O))
  go_ret
  rw [cl_cold c XW.out bm] at O
  have h2 := H2.out; have t := O.tch; have hne := h2.ne
  refine ⟨rfl, ⟨O.at_ 0 rfl, (h2.of_.tch t h2.inn (fun b hb e => (h2.out b hb).2.1 e)).mono t.size, h2.inn, h2.fit, ownsMap_tch h2.map t (fun e => hne e.symm), hne, fun b hb => ⟨Nat.lt_of_lt_of_le (h2.out b hb).1 t.size, (h2.out b hb).2⟩, ⟨h2.ok.o, h2.ok.front, h2.ok.roots⟩, h2.room⟩, (Tch.of_grown G2.out).trans t (fun b hb _ => hb)⟩

def mapRen : Go.Shelf.Ren := ⟨fun | 5 => 46 | 7 => 76 | n => n, fun | 4 => 4 | 20 => 20 | 23 => 85 | 25 => 3 | 3 => 23 | n => n, fun | n => n⟩
theorem mapLays : SlLaysW.n5 Tryz.prog mapRen := {
  mixed := by kernel_rfl
  f5 := ⟨Tryz.f46.name, by decide +kernel, Tryz.func46.trans (congrArg some (by kernel_rfl))⟩
  f7 := Tryz.func76.trans (congrArg some (by kernel_rfl))
  t4 := Tryz.underlying4
  a4 := Tryz.isAgg4
  z4 := Tryz.sizeOf4
  v4 := Tryz.zeroValue4
  t20 := Tryz.underlying20
  a20 := Tryz.isAgg20
  z20 := Tryz.sizeOf20
  v20 := Tryz.zeroValue20
  t23 := Tryz.underlying85
  a23 := Tryz.isAgg85
  z23 := Tryz.sizeOf85
  v23 := Tryz.zeroValue85 }
def ZCl : List Value := [.float .f64 0, .float .f64 0, .float .f64 0] ++ (ZLt0 ++ [.map none, .bool false])
theorem ZCl_info : (Tryz.prog.info? 87).map (fun i => i.zero.map (fun v => v.cells)) = some (some ZCl.toArray) := by kernel_rfl
theorem sizeCl (c : ClD) {x : LtR} (hx : x.wf) (bm : Nat) : (Tryz.prog.info? 87).map (·.size) = some (clCells c x bm).length := by rw [cl_len c hx]; kernel_rfl
theorem ZCl_len : ZCl.length = 205 := by kernel_rfl
theorem clCells_one (c : ClD) (x : LtR) (bm : Nat) : ∀ v ∈ clCells c x bm, v.oneCell' = true := by
  intro v hv
  unfold clCells at hv
  rcases List.mem_append.1 hv with hv | hv
  · simp [OptD.cells] at hv; rcases hv with rfl | rfl | rfl <;> rfl
  · rcases List.mem_append.1 hv with hv | hv
    · exact LtR_one _ v hv
    · simp at hv; rcases hv with rfl | rfl <;> rfl
theorem cl_map (c : ClD) {x : LtR} (hx : x.wf) (bm b2 : Nat) : (clCells c x bm).set 203 (.map (some b2)) = clCells c x b2 := by
  have h := x.cells_length hx
  have ho : c.o.cells.length = 3 := rfl
  unfold clCells
  rw [List.set_append_right _ _ (by omega), List.set_append_right _ _ (by omega), ho, h]; rfl
set_option maxHeartbeats 8000000 in
theorem cCopy_ok {I : Nat → Prop} {w0 : World} {p bm : Nat} {x : LtR} {c : ClD} (h : ClRep 87 I w0 p bm x c) :
    Calls Tryz.prog 20 #[.pointer (some ⟨p, 0, none⟩)] w0 fun e w' => ∃ q b2, e = .returned (.pointer (some ⟨q, 0, none⟩)) ∧ ClRep 87 I w' q b2 x c ∧ w0.grownBy w' none ∧ w0.heap.size ≤ q ∧ w0.heap.size ≤ b2 := by
  have O := OwF.start (fun _ => False) w0
  have H := Lib.hid h; have XW := Lib.hid h.wf
  have CRO := Lib.hid (show RowAt w0 p 0 (clCells c x bm) from h.blk.row)
  have CRM := Lib.hid (fun w (g : w0.grownBy w none) => (h.grown g).roots)
  have CC := Lib.hid (fun w (g : w0.grownBy w none) => AnyW.maps_Clone_owns mapLays 3 heldV bm c.roots.length (rootsW c.roots) w (h.grown g).map)
  clear h
  go_enter Tryz.func20, Tryz.ntmps20
  go_upto_region 4 with (first | ((with_reducible refine @wpList_at _ _ _ _ _ _ _ (.load 87 (.tmp 7)) rfl ?_); refine wpList_load_part rfl 87 _ rfl p (0) rfl (clCells c x bm) _ (CRO.out.grown (O.tch.grown (fun _ h => h.elim)) (by simp)) Tryz.underlying87 rfl (sizeCl c XW.out bm) ?_) | ((with_reducible refine @wpList_at _ _ _ _ _ _ _ (.alloc 87) rfl ?_); refine @wpList_of_alloc _ _ _ _ _ _ _ _ _ _ 87 rfl ZCl ZCl_info O rfl ?_; clear O; intro q w O) | ((with_reducible refine @wpList_at _ _ _ _ _ _ _ (.store 87 (.tmp 3) (.tmp 8)) rfl ?_); refine @wpList_of_store _ _ _ _ _ _ _ _ _ _ 87 (.tmp 3) (.tmp 8) rfl O 0 q rfl (clCells c x bm) ZCl _ rfl rfl (by rw [cl_len c XW.out, ZCl_len]) (clCells_one _ _ _) (sizeCl c XW.out bm) rfl ?_; clear O; intro w O; simp only [List.set_cons_zero] at O))
  have cm := CRM.out _ (O.tch.grown (fun _ h => h.elim))
  go_wp2_with fail
  refine (CC.out _ (O.tch.grown (fun _ h => h.elim))).mono ?_
  rintro e w2 ⟨rfl, m2, _, hB⟩
  have M2 := Lib.hid m2
  have g2 : w.grownBy w2 none := below_grown hB
  have G0 := Lib.hid (O.tch.grown (fun _ h => h.elim))
  have LQ := Lib.hid ((O.lie 0 rfl).resolve_right id); have QB := Lib.hid (O.at_ 0 rfl)
  have O2 := (OwF.start (fun b => b = q) w2).add (QB.out.grown g2 (by simp)) rfl (by simp)
  have G2 := Lib.hid g2
  obtain ⟨b2, hb2⟩ : ∃ d, w.heap.size = d := ⟨_, rfl⟩
  rw [hb2] at M2 ⊢
  have HB2 := Lib.hid hb2
  clear g2 hB cm m2 O hb2
  go_wp2_with (first | ((with_reducible refine @wpList_at _ _ _ _ _ _ _ (.store 85 (.tmp 14) (.tmp 13)) rfl ?_); refine @wpList_of_store_cell _ _ _ _ _ _ _ _ _ _ 85 (.tmp 14) (.tmp 13) rfl O2 0 q 203 rfl (.map (some b2)) rfl (by kernel_rfl) _ _ rfl (by rw [cl_len c XW.out]; decide) rfl rfl ?_; clear O2; intro w O2; simp only [List.set_cons_zero] at O2))
  go_ret
  rw [cl_map c XW.out bm b2] at O2
  have h2 := (H.out.grown G0.out).grown G2.out; have t := O2.tch; have ql := QB.out.lt; have hb2 := HB2.out; have m2 := M2.out; have lq := LQ.out
  have z0 := G0.out.size; have z2 := G2.out.size; have z3 := t.size
  have gq : w0.grownBy _ none := ((Tch.of_grown (F := fun _ => False) (Lib.grownBy_trans G0.out G2.out)).trans t (fun b hb hl => by subst hb; omega)).grown (fun _ h => h.elim)
  have ho := H.out.out
  exact ⟨q, b2, rfl, ⟨O2.at_ 0 rfl, (h2.of_.tch t h2.inn (fun b hb e => by have := (ho b hb).1; omega)).mono t.size, h2.inn, h2.fit, ownsMap_tch m2 t (fun e => by omega), fun e => by omega, fun b hb => by have := (ho b hb).1; exact ⟨by omega, by omega, by omega⟩, h2.ok, h2.room⟩, gq, lq, by omega⟩

theorem wpList_mkmap {P : Program} {ops : Array Oper} {rest : List Oper} {o : Oper} {a : Act} {w : World} {Q : Exit → Act → World → Prop} (t : TypeId) (ho : o.op = .makeMap t none) (hgd : Region.wanted o (yielded ops a.tmps) = true)
    (h : wpList P ops Q rest (a.put o.dst (.map (some w.heap.size))) (w.alloc (.map #[] 0))) : wpList P ops Q (o :: rest) a w := by
  refine wpList_wanted hgd fun K hK => ?_
  unfold Oper.wp execOp
  simp only [ho, Sem.run_bind, Sem.run_pure]
  exact hK _ _ h
/-- a client ahead of its first block -/
def cl0 (o : OptD) : ClD := ⟨o, zeroL, [], false⟩
def zLtC : LtR := ⟨⟨⟨#[]⟩, 0, 0, List.replicate 32 0, List.replicate 32 0, List.replicate 32 0, List.replicate 32 0, List.replicate 32 0⟩, 0, 0, List.replicate 32 0, none, 0, 0, none, 0, 0, none, 0, 0⟩
theorem zLtC_cells : zLtC.cells = ZLt0 := by kernel_rfl
theorem zLtC_of (B : Nat) (w : World) : zLtC.of B w zeroL :=
  ⟨rfl, rfl, rfl, rfl, ⟨none, 0, rfl, Nat.le_refl _, Nat.zero_le _, rfl, .inl rfl⟩, ⟨none, 0, rfl, Nat.le_refl _, Nat.zero_le _, rfl, .inl rfl⟩, ⟨none, 0, rfl, Nat.le_refl _, Nat.zero_le _, rfl, .inl rfl⟩⟩
theorem r32_len : (List.replicate 32 (0 : UInt8)).length = 32 := rfl
theorem zeroL_wf : zeroL.wf := ⟨⟨by decide, by unfold i64R zeroL; decide, by unfold i64R zeroL; decide, r32_len, r32_len, r32_len, r32_len, r32_len⟩, ⟨by unfold i64R zeroL; decide, by unfold i64R zeroL; decide, r32_len, by intro s hs; cases hs⟩, (by intro s hs; cases hs), (by intro s hs; cases hs)⟩
theorem zeroL_mid : zeroL.mid := ⟨zeroL_wf, by decide, by decide, by decide, by decide⟩
theorem zLtC_inn (I : Nat → Prop) : zLtC.inn I := ⟨fun _a h => absurd rfl h, fun _a h => absurd rfl h, fun _a h => absurd rfl h⟩
theorem bCl (o : OptD) (m : Nat) : Tryz.prog.built 87 [(0, .agg o.cells.toArray), (2, .map (some m))] = some (clCells (cl0 o) zLtC m).toArray := by
  obtain ⟨x, y, z⟩ := o
  kernel_rfl
/-- what New answers: the error, and a client whose front is the root -/
def cnewE (l : LightD) (now : Nat) (o : OptD) : Int :=
  if rightO o = false then 151 else if finB now = false then 154 else if soundL l.header.chain l ≠ 0 then soundL l.header.chain l else if expF l.header.time now o = true then 155 else 0
def CNew (w : World) (l : LightD) (o : OptD) (r : Int) (e : Ending) (w' : World) : Prop :=
  w.grownBy w' none ∧ ∃ pv, e = .returned (.tuple #[pv, .int .i64 r]) ∧ ((r ≠ 0 ∧ pv = .pointer none) ∨
    (r = 0 ∧ ∃ (p bm : Nat) (I : Nat → Prop) (z : LtR), pv = .pointer (some ⟨p, 0, none⟩) ∧ ClRep 87 I w' p bm z (ClD.new l o) ∧ w.heap.size ≤ p ∧ w.heap.size ≤ bm ∧ ∀ b, I b → w.heap.size ≤ b))
theorem cl_zero {w : World} {p bm : Nat} {o : OptD} (hb : Blk w p (clCells (cl0 o) zLtC bm) 87) (hm : w.ownsMap Tryz.prog 3 heldV bm 0 (.map [])) (ho : o.wf) (hne : p ≠ bm) : ClRep 87 (fun _ => False) w p bm zLtC (cl0 o) :=
  ⟨hb, zLtC_of _ _, zLtC_inn _, zeroL_mid, hm, hne, fun _ h => h.elim, ⟨ho, zeroL_wf, by intro p hp; cases hp⟩, Nat.zero_le _⟩
set_option maxHeartbeats 8000000 in
theorem cNew_ok (x : LtR) (l : LightD) (now : Nat) (o : OptD) (w0 : World) (hof : x.of w0.heap.size w0 l) (hwf : l.wf) (hch : l.header.chain.size ≤ 140737488351232) (hnow : now < 18446744073709551616) (ho : o.wf) (hR : RowAt w0 1 0 (wCells rootsL)) :
    Calls Tryz.prog 11 #[.agg x.cells.toArray, .float .f64 now, .agg o.cells.toArray] w0 (CNew w0 l o (cnewE l now o)) := by
  have XW := Lib.hid (hof.wf hwf)
  have CR := fun w => optRight_ok o w
  have CI := fun w => isInf_ok now w hnow; have CN := isNaN_ok now; have hfin := finB_eq hnow
  have CE := fun w => expired_ok l.header.time now o w hnow hwf.header.time
  have CS := fun w (g : w0.grownBy w none) => vSound_any l.header.chain x l w hwf (hof.up g (Nat.le_refl _)) (by unfold maxLen; omega) (hR.grown g (by simp))
  have HOF := Lib.hid hof
  have P0 : x.cells[0]? = some (.string l.header.chain) := by rw [← hof.header]; rfl
  have P2 : x.cells[2]? = some (.int .i64 l.header.time) := by rw [← hof.header]; rfl
  have hsk : soundL l.header.chain l = 0 → l.mid := fun h => (sound_iff.1 h).mid hwf hch
  have HB := Lib.hid (show cnewE l now o = if rightO o = false then 151 else if finB now = false then 154 else if soundL l.header.chain l ≠ 0 then soundL l.header.chain l else if expF l.header.time now o = true then 155 else 0 from rfl)
  rw [hfin] at HB
  obtain ⟨r, hr⟩ : ∃ z, rightO o = z := ⟨_, rfl⟩
  obtain ⟨n1, hn1⟩ : ∃ z, nanF now = z := ⟨_, rfl⟩
  obtain ⟨n2, hn2⟩ : ∃ z, infF now = z := ⟨_, rfl⟩
  obtain ⟨s, hs⟩ : ∃ z, soundL l.header.chain l = z := ⟨_, rfl⟩
  obtain ⟨ex, hex⟩ : ∃ z, expF l.header.time now o = z := ⟨_, rfl⟩
  obtain ⟨E, hE⟩ : ∃ z, cnewE l now o = z := ⟨_, rfl⟩
  rw [hr, hn1, hn2, hs, hex, hE] at HB
  rw [hr] at CR; rw [hn1] at CN; rw [hn2] at CI; rw [hs] at CS hsk; rw [hex] at CE; rw [hE]
  obtain ⟨CH, hCH⟩ : ∃ z, l.header.chain = z := ⟨_, rfl⟩
  obtain ⟨TM, hTM⟩ : ∃ z, l.header.time = z := ⟨_, rfl⟩
  rw [hCH] at P0 CS; rw [hTM] at P2 CE
  have HO := Lib.hid ho; have HSK := Lib.hid hsk
  replace CR := Lib.hid CR; replace CI := Lib.hid CI; replace CN := Lib.hid CN; replace CE := Lib.hid CE; replace CS := Lib.hid CS; replace P0 := Lib.hid P0; replace P2 := Lib.hid P2
  have O := OwF.start (fun _ => False) w0
  clear hr hn1 hn2 hs hex hCH hTM hof hwf hch hnow ho hR hfin hsk hE
  go_enter Tryz.func11, Tryz.ntmps11
  go_upto_region 1 with (first | ((with_reducible refine @wpList_at _ _ _ _ _ _ _ (.box 31 (.tmp 0)) rfl ?_); refine @wpList_of_box _ _ _ _ _ _ _ _ _ _ 31 (.tmp 0) rfl x.cells rfl O rfl ?_; clear O; intro bx w O) | ((with_reducible refine @wpList_at _ _ _ _ _ _ _ (.box 43 (.tmp 2)) rfl ?_); refine @wpList_of_box _ _ _ _ _ _ _ _ _ _ 43 (.tmp 2) rfl o.cells rfl O rfl ?_; clear O; intro bo w O))
  go_wp2_with (first | ((with_reducible refine @wpList_at _ _ _ _ _ _ _ (.load 43 (.tmp 5)) rfl ?_); refine @wpList_of_whole _ _ _ _ _ _ _ _ _ _ 43 (.tmp 5) rfl O 0 bo rfl o.cells _ rfl _ Tryz.underlying43 rfl sizeOpt rfl ?_))
  refine (CR.out _).mono ?_
  rintro e w ⟨rfl, g⟩
  replace O := O.call g
  clear g
  cases r with
  | false =>
    have hv := HB.out; rw [if_pos rfl] at hv; replace HB := Lib.hid hv; clear hv
    go_wp2_with fail
    go_ret2
    exact ⟨O.tch.grown (fun _ h => h.elim), _, by rw [HB.out]; rfl, .inl ⟨by rw [HB.out]; decide, rfl⟩⟩
  | true =>
  have hv := HB.out; rw [if_neg (by decide)] at hv; replace HB := Lib.hid hv; clear hv
  go_wp2_with fail
  refine (CN.out _).mono ?_
  rintro e w' ⟨rfl, rfl⟩
  cases n1 with
  | true =>
    have hv := HB.out; rw [if_pos (show (!(true || n2)) = false from rfl)] at hv; replace HB := Lib.hid hv; clear hv
    go_wp2_with fail
    go_ret2
    exact ⟨O.tch.grown (fun _ h => h.elim), _, by rw [HB.out]; rfl, .inl ⟨by rw [HB.out]; decide, rfl⟩⟩
  | false =>
  go_wp2_with fail
  refine (CI.out _).mono ?_
  rintro e w' ⟨rfl, rfl⟩
  cases n2 with
  | true =>
    have hv := HB.out; rw [if_pos (show (!(false || true)) = false from rfl)] at hv; replace HB := Lib.hid hv; clear hv
    go_wp2_with fail
    go_ret2
    exact ⟨O.tch.grown (fun _ h => h.elim), _, by rw [HB.out]; rfl, .inl ⟨by rw [HB.out]; decide, rfl⟩⟩
  | false =>
  have hv := HB.out; rw [if_neg (show ¬ (!(false || false)) = false by decide)] at hv; replace HB := Lib.hid hv; clear hv
  go_wp2_with (first | ((with_reducible refine @wpList_at _ _ _ _ _ _ _ (.load 9 (.tmp 22)) rfl ?_); refine @wpList_of_cell _ _ _ _ _ _ _ _ _ _ 9 (.tmp 22) rfl O 1 bx 0 rfl _ _ rfl _ P0.out _ Tryz.underlying9 rfl rfl ?_) | ((with_reducible refine @wpList_at _ _ _ _ _ _ _ (.load 31 (.tmp 3)) rfl ?_); refine @wpList_of_whole _ _ _ _ _ _ _ _ _ _ 31 (.tmp 3) rfl O 1 bx rfl x.cells _ rfl _ Tryz.underlying31 rfl (sizeLt _ XW.out) rfl ?_))
  refine (CS.out _ (O.tch.grown (fun _ h => h.elim))).mono ?_
  rintro e w ⟨rfl, g⟩
  replace O := O.call g
  clear g
  by_cases c1 : s = 0
  case neg =>
    have hv := HB.out; rw [if_pos c1] at hv; replace HB := Lib.hid hv; clear hv
    have d1 : (s != 0) = true := by simpa using c1
    have HC1 := Lib.hid c1
    clear c1
    go_wp2_with fail
    go_ret2
    rw [← HB.out] at HC1 ⊢
    exact ⟨O.tch.grown (fun _ h => h.elim), _, rfl, .inl ⟨HC1.out, rfl⟩⟩
  subst c1
  have hv := HB.out; rw [if_neg (fun h => h rfl)] at hv; replace HB := Lib.hid hv; clear hv
  go_wp2_with (first | ((with_reducible refine @wpList_at _ _ _ _ _ _ _ (.load 43 (.tmp 5)) rfl ?_); refine @wpList_of_whole _ _ _ _ _ _ _ _ _ _ 43 (.tmp 5) rfl O 0 bo rfl o.cells _ rfl _ Tryz.underlying43 rfl sizeOpt rfl ?_) | ((with_reducible refine @wpList_at _ _ _ _ _ _ _ (.load 3 (.tmp 30)) rfl ?_); refine @wpList_of_cell _ _ _ _ _ _ _ _ _ _ 3 (.tmp 30) rfl O 1 bx 2 rfl _ _ rfl _ P2.out _ Tryz.underlying3 rfl rfl ?_))
  refine (CE.out _).mono ?_
  rintro e w ⟨rfl, g⟩
  replace O := O.call g
  clear g
  cases ex with
  | true =>
    have hv := HB.out; rw [if_pos rfl] at hv; replace HB := Lib.hid hv; clear hv
    go_wp2_with fail
    go_ret2
    exact ⟨O.tch.grown (fun _ h => h.elim), _, by rw [HB.out]; rfl, .inl ⟨by rw [HB.out]; decide, rfl⟩⟩
  | false =>
  have hv := HB.out; rw [if_neg (by decide)] at hv; replace HB := Lib.hid hv; clear hv
  go_wp2_with (first | ((with_reducible refine @wpList_at _ _ _ _ _ _ _ (.load 43 (.tmp 5)) rfl ?_); refine @wpList_of_whole _ _ _ _ _ _ _ _ _ _ 43 (.tmp 5) rfl O 0 bo rfl o.cells _ rfl _ Tryz.underlying43 rfl sizeOpt rfl ?_) | ((with_reducible refine @wpList_at _ _ _ _ _ _ _ (.makeMap 85 none) rfl ?_); refine wpList_mkmap 85 rfl rfl ?_; have HM0 := Lib.hid (World.ownsMap_made w Tryz.prog 3 heldV); obtain ⟨bm, hbm⟩ : ∃ z, w.heap.size = z := ⟨_, rfl⟩; have HBG := Lib.hid (show w0.heap.size ≤ bm by rw [← hbm]; exact O.tch.size); replace O := O.call (World.grownBy_alloc w (.map #[] 0) none); obtain ⟨wm, hwm⟩ : ∃ z, w.alloc (.map #[] 0) = z := ⟨_, rfl⟩; rw [hwm] at O HM0 ⊢; rw [hbm] at HM0 ⊢; have HWM := Lib.hid (show wm.heap.size = bm + 1 by rw [← hwm, ← hbm]; simp); clear hwm hbm) | ((with_reducible refine @wpList_at _ _ _ _ _ _ _ (.build 87 #[(0, .tmp 35), (2, .tmp 36)]) rfl ?_); refine wpList_build_eq rfl 87 _ rfl [(0, .agg o.cells.toArray), (2, .map (some bm))] (by kernel_rfl) (clCells (cl0 o) zLtC bm) (bCl o bm) ?_) | ((with_reducible refine @wpList_at _ _ _ _ _ _ _ (.box 87 (.tmp 37)) rfl ?_); refine wpList_box_as rfl 87 _ rfl (clCells (cl0 o) zLtC bm) rfl ?_; intro w4 b4 g4 s4; obtain ⟨q, hq⟩ : ∃ z, wm.heap.size = z := ⟨_, rfl⟩; rw [hq] at b4 s4 ⊢; have HQ := Lib.hid (show q = bm + 1 by rw [← hq]; exact HWM.out); have HB4 := Lib.hid b4; have HM4 := Lib.hid (ownsMap_tch (G := fun _ => False) HM0.out (Tch.of_grown g4) id); replace O := O.call g4; clear b4 g4 s4 hq) | ((with_reducible refine @wpList_at _ _ _ _ _ _ _ (.load 31 (.tmp 3)) rfl ?_); refine @wpList_of_whole _ _ _ _ _ _ _ _ _ _ 31 (.tmp 3) rfl O 1 bx rfl x.cells _ rfl _ Tryz.underlying31 rfl (sizeLt _ XW.out) rfl ?_))
  have CZ := Lib.hid (cl_zero HB4.out HM4.out HO.out (by have := HQ.out; omega))
  have CT := take_ok CZ.out x l (HOF.out.up (O.tch.grown (fun _ h => h.elim)) (Nat.le_refl _)) (HSK.out trivial) (by show 0 + 1 ≤ 100000; omega)
  have G0 := Lib.hid (O.tch.grown (fun _ h => h.elim))
  refine CT.mono ?_
  rintro e w2 ⟨rfl, I', z, h2, t2, hI'⟩
  have H2 := Lib.hid h2; have T2 := Lib.hid t2; have HI2 := Lib.hid hI'
  clear h2 t2 hI'
  go_wp2_with fail
  go_ret2
  have gz := G0.out; have zz := gz.size; have hq := HQ.out; have hbm := HBG.out; have hE := HB.out
  subst hE
  exact ⟨((Tch.of_grown (F := fun _ => False) gz).trans T2.out (fun b hb hl => by rcases hb with rfl | rfl <;> omega)).grown (fun _ h => h.elim), _, rfl, .inr ⟨rfl, q, bm, I', z, rfl, H2.out, by omega, hbm, fun b hb => by have := HI2.out b hb; omega⟩⟩

theorem hAlive1 : cnewE zeroL 4607182418800017408 ⟨4602678819172646912, 4617315517961601024, 0⟩ = 61 := by decide +kernel
theorem hAlive2 : cnewE zeroL 4607182418800017408 ⟨4602678819172646912, 0, 0⟩ = 151 := by decide +kernel
theorem bOptC : Tryz.prog.built 43 [(0, .float .f64 4602678819172646912), (1, .float .f64 4617315517961601024)] = some (OptD.cells ⟨4602678819172646912, 4617315517961601024, 0⟩).toArray := by kernel_rfl
theorem bOptC2 : Tryz.prog.built 43 [(0, .float .f64 4602678819172646912)] = some (OptD.cells ⟨4602678819172646912, 0, 0⟩).toArray := by kernel_rfl
theorem bLightC : Tryz.prog.built 31 [] = some zLtC.cells.toArray := by rw [zLtC_cells]; kernel_rfl
set_option maxHeartbeats 2000000 in
theorem alive19_ok (w0 : World) (hR : RowAt w0 1 0 (wCells rootsL)) : Calls Tryz.prog 10 #[] w0 fun e w' => e = .returned (.bool true) ∧ w0.grownBy w' none := by
  have C1 := Lib.hid (fun w (g : w0.grownBy w none) => cNew_ok zLtC zeroL 4607182418800017408 ⟨4602678819172646912, 4617315517961601024, 0⟩ w (zLtC_of _ _) zeroL_wf (by decide) (by decide) ⟨by decide, by decide, by decide⟩ (hR.grown g (by simp)))
  have C2 := Lib.hid (fun w (g : w0.grownBy w none) => cNew_ok zLtC zeroL 4607182418800017408 ⟨4602678819172646912, 0, 0⟩ w (zLtC_of _ _) zeroL_wf (by decide) (by decide) ⟨by decide, by decide, by decide⟩ (hR.grown g (by simp)))
  rw [hAlive1] at C1; rw [hAlive2] at C2
  clear hR
  go_enter Tryz.func10, Tryz.ntmps10
  go_wp2_with (first | ((with_reducible refine @wpList_at _ _ _ _ _ _ _ (.build 31 #[]) rfl ?_); refine wpList_build_eq rfl 31 _ rfl [] (by kernel_rfl) zLtC.cells bLightC ?_) | (refine wpList_build_eq rfl 43 _ rfl [(0, .float .f64 4602678819172646912), (1, .float .f64 4617315517961601024)] (by kernel_rfl) (OptD.cells ⟨4602678819172646912, 4617315517961601024, 0⟩) bOptC ?_))
  refine (C1.out _ (gb_refl _)).mono ?_
  rintro e w ⟨g, pv, rfl, _⟩
  have G := Lib.hid g
  clear g
  go_wp2_with (first | ((with_reducible refine @wpList_at _ _ _ _ _ _ _ (.build 31 #[]) rfl ?_); refine wpList_build_eq rfl 31 _ rfl [] (by kernel_rfl) zLtC.cells bLightC ?_) | (refine wpList_build_eq rfl 43 _ rfl [(0, .float .f64 4602678819172646912)] (by kernel_rfl) (OptD.cells ⟨4602678819172646912, 0, 0⟩) bOptC2 ?_))
  refine (C2.out _ G.out).mono ?_
  rintro e w2 ⟨g, pv2, rfl, _⟩
  have G2 := Lib.hid (Lib.grownBy_trans G.out g)
  clear g
  go_wp2_with fail
  go_ret
  exact ⟨rfl, G2.out⟩

end Go.Proofs.YtbhghlendbcejaaGreatDoor
