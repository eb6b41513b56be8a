/- A light client, plainly: goals, blocks that are given, prunings. A light client's memory: its own cells, what it trusts, what pends. Walks: slices.Clone, of things of several cells, empty ones too; bisect.copied. -/
import Derived.Test.YtdhchehagfmjcaaGreatDoorVf
import Derived.Test.YtdhchehagfmjcaaGreatDoorDrw
import Derived.Test.YtdhchehagfmjcaaGreatDoorLx
import Derived.Test.YtdhchehagfmjcaaGreatDoorAl
import Derived.Test.YtdhchehagfmjcaaGreatDoorTs
namespace Go.Proofs.YtdhchehagfmjcaaGreatDoor
open Go.RowKit
set_option maxRecDepth 100000

structure BcD where
  o : OptD
  store : List LightD
  pend : List LightD
  want : Int
  fet : Int
  frm : Int
def zeroL : LightD := ⟨⟨⟨#[]⟩, 0, 0, List.replicate 32 0, List.replicate 32 0, List.replicate 32 0, List.replicate 32 0, List.replicate 32 0⟩, ⟨0, 0, List.replicate 32 0, []⟩, [], []⟩
def lastB (l : List LightD) : LightD := (l.getLast?).getD zeroL
def firstB (l : List LightD) : LightD := (l.head?).getD zeroL
def BcD.new (root : LightD) (o : OptD) : BcD := ⟨o, [root], [], 0, 0, -1⟩
def bnewE (root : LightD) (now : Nat) (o : OptD) : Int :=
  if rightO o = false then 151 else if finB now = false then 154 else if soundL root.header.chain root ≠ 0 then soundL root.header.chain root else if expF root.header.time now o = true then 155 else 0
def BcD.drop (c : BcD) : BcD := { c with pend := [], want := 0 }
def BcD.goal (c : BcD) (h : Int) : BcD × Int :=
  if 1099511627776 < h then (c, 1) else if h ≤ (lastB c.store).header.height then (c, 153) else
  ({ c with pend := [], want := h, fet := 0, frm := (c.store.length : Int) - 1 }, 0)
def BcD.climb (now : Nat) : Nat → BcD → BcD × Int
  | 0, c => ({ c with want := 0 }, 0)
  | n + 1, c =>
    let top := lastB c.pend
    let base := lastB c.store
    let e := vstepL base top now c.o
    if e = 0 then BcD.climb now n { c with store := c.store ++ [top], pend := c.pend.dropLast }
    else if e = 159 then ({ c with want := base.header.height + (top.header.height - base.header.height) / 2 }, 0)
    else (c.drop, e)
def BcD.give (c : BcD) (l : LightD) (now : Nat) : BcD × Int :=
  if c.want = 0 ∨ l.header.height ≠ c.want ∨ l.header.chain ≠ (firstB c.store).header.chain then (c, 161) else if c.fet = 200 then (c.drop, 162) else
  BcD.climb now (c.pend.length + 1) { c with fet := c.fet + 1, pend := c.pend ++ [l] }
def BcD.trace (c : BcD) : List LightD := if c.frm < 0 then [] else c.store.drop c.frm.toNat
def BcD.prune (c : BcD) (n : Int) : BcD × Int :=
  if n < 1 then (c, 1) else ({ c with pend := [], want := 0, frm := -1, store := c.store.drop (c.store.length - n.toNat) }, 0)

/-- a block's height may be -/
def hOk (l : LightD) : Prop := 1 ≤ l.header.height ∧ l.header.height ≤ 1099511627776
/-! what a climb does -/
theorem lastB_snoc (l : List LightD) (x : LightD) : lastB (l ++ [x]) = x := by simp [lastB]
theorem lastB_mem {l : List LightD} (h : l ≠ []) : lastB l ∈ l := by
  unfold lastB
  rw [List.getLast?_eq_some_getLast h]
  exact List.getLast_mem h
theorem firstB_app {l : List LightD} (h : l ≠ []) (m : List LightD) : firstB (l ++ m) = firstB l := by
  cases l with
  | nil => exact absurd rfl h
  | cons x l => rfl
/-- each one behind the first n may be trusted if the one ahead is -/
def Steps (now : Nat) (o : OptD) (n : Nat) (s : List LightD) : Prop := ∀ k, n ≤ k → 1 ≤ k → ∀ (h : k < s.length), vstepL (s[k - 1]'(by omega)) s[k] now o = 0
theorem steps_snoc {now : Nat} {o : OptD} {n : Nat} {s : List LightD} {x : LightD} (h : Steps now o n s) (_hs : s ≠ []) (hx : vstepL (lastB s) x now o = 0) : Steps now o n (s ++ [x]) := by
  intro k hk hk1 hl
  rw [List.length_append] at hl
  by_cases e : k < s.length
  · rw [List.getElem_append_left e, List.getElem_append_left (by omega)]
    exact h k hk hk1 e
  · have hk2 : k = s.length := by simp at hl; omega
    subst hk2
    have h1 : (s ++ [x])[s.length - 1]'(by simp; omega) = lastB s := by
      rw [List.getElem_append_left (by omega)]
      unfold lastB
      rw [List.getLast?_eq_getElem?, List.getElem?_eq_getElem (by omega)]; rfl
    rw [h1, List.getElem_append_right (Nat.le_refl _)]
    simpa using hx
theorem steps_none (now : Nat) (o : OptD) (s : List LightD) : Steps now o s.length s := fun k hk _ h => absurd h (by omega)
/-- what a climb leaves -/
structure Climbed (now : Nat) (c d : BcD) (e : Int) : Prop where
  o : d.o = c.o
  fet : d.fet = c.fet
  frm : d.frm = c.frm
  store : ∃ add, d.store = c.store ++ add ∧ (∀ x ∈ add, x ∈ c.pend)
  steps : ∀ n, Steps now c.o n c.store → Steps now c.o n d.store
  pend : ∃ k, d.pend = c.pend.take k
  err : e ≠ 0 → d.want = 0 ∧ d.pend = []
theorem climb_ok (now : Nat) : ∀ (n : Nat) (c : BcD), c.store ≠ [] → c.pend.length = n → Climbed now c (BcD.climb now n c).1 (BcD.climb now n c).2
  | 0, c, _, hn => ⟨rfl, rfl, rfl, ⟨[], by simp [BcD.climb], by simp⟩, fun _ h => h, ⟨0, by simp [BcD.climb, List.eq_nil_of_length_eq_zero hn]⟩, fun h => absurd rfl h⟩
  | n + 1, c, hs, hn => by
    have hp : c.pend ≠ [] := fun e => by rw [e] at hn; simp at hn
    have htop := lastB_mem hp
    unfold BcD.climb
    dsimp only
    by_cases h0 : vstepL (lastB c.store) (lastB c.pend) now c.o = 0
    · rw [if_pos h0]
      have ih := climb_ok now n { c with store := c.store ++ [lastB c.pend], pend := c.pend.dropLast } (by simp) (by simp [hn])
      obtain ⟨i1, i2, i3, ⟨add, i4, i5⟩, i6, ⟨k, i7⟩, i8⟩ := ih
      refine ⟨i1, i2, i3, ⟨lastB c.pend :: add, by rw [i4]; simp, ?_⟩, fun m hm => i6 m (steps_snoc hm hs h0), ⟨min k (c.pend.length - 1), ?_⟩, i8⟩
      · intro x hx
        rcases List.mem_cons.1 hx with rfl | hx
        · exact htop
        · exact (List.dropLast_sublist _).mem (i5 x hx)
      · rw [i7]
        show c.pend.dropLast.take k = _
        rw [List.dropLast_eq_take, List.take_take]
    · rw [if_neg h0]
      by_cases h1 : vstepL (lastB c.store) (lastB c.pend) now c.o = 159
      · rw [if_pos h1]
        exact ⟨rfl, rfl, rfl, ⟨[], by simp, by simp⟩, fun _ h => h, ⟨c.pend.length, by simp⟩, fun h => absurd rfl h⟩
      · rw [if_neg h1]
        exact ⟨rfl, rfl, rfl, ⟨[], by simp [BcD.drop], by simp⟩, fun _ h => h, ⟨0, by simp [BcD.drop]⟩, fun _ => ⟨rfl, rfl⟩⟩

/-! heights -/
def hL (l : LightD) : Int := l.header.height
theorem sound_hOk {chain : ByteArray} {l : LightD} (h : soundL chain l = 0) : hOk l := by
  have := (sound_iff.1 h).header
  unfold okHeader inR at this
  simp only [Bool.and_eq_true, decide_eq_true_eq] at this
  exact this.2.1
theorem sound_code (chain : ByteArray) (l : LightD) : soundL chain l ≠ 159 := by
  unfold soundL
  split
  · decide
  split
  · decide
  split
  · decide
  split
  · decide
  split
  · decide
  split
  · decide
  split
  · decide
  · rename_i h _ _ _
    rcases check_two (ds := l.set) (chain := chain) (c := l.commit) (by simpa using ‹¬ rightL l.set = false›) with e | e <;> rw [e] <;> decide
theorem step_159 {a b : LightD} {now : Nat} {o : OptD} (h : vstepL a b now o = 159) : hL a < hL b ∧ hL b - 1 ≠ hL a ∧ soundL a.header.chain b = 0 := by
  unfold vstepL at h
  by_cases h1 : rightO o = false
  · rw [if_pos h1] at h; exact absurd h (by decide)
  rw [if_neg h1] at h
  by_cases h2 : finB now = false
  · rw [if_pos h2] at h; exact absurd h (by decide)
  rw [if_neg h2] at h
  by_cases h3 : expF a.header.time now o = true
  · rw [if_pos h3] at h; exact absurd h (by decide)
  rw [if_neg h3] at h
  by_cases h4 : b.header.height ≤ a.header.height ∨ b.header.time ≤ a.header.time
  · rw [if_pos h4] at h; exact absurd h (by decide)
  rw [if_neg h4] at h
  by_cases h5 : gtF (subF (i2f b.header.time) now) o.drift = true
  · rw [if_pos h5] at h; exact absurd h (by decide)
  rw [if_neg h5] at h
  by_cases h6 : soundL a.header.chain b ≠ 0
  · rw [if_pos h6] at h; exact absurd h (sound_code _ _)
  rw [if_neg h6] at h
  refine ⟨by unfold hL; omega, ?_, by simpa using h6⟩
  intro e
  unfold hL at e
  rw [if_pos e] at h
  unfold nextL at h
  split at h
  · exact absurd h (by decide)
  · split at h
    · exact absurd h (by decide)
    · exact absurd h (by decide)
theorem step_0 {a b : LightD} {now : Nat} {o : OptD} (h : vstepL a b now o = 0) : hL a < hL b ∧ hOk b := by
  have s := step_iff.1 h
  exact ⟨s.height, sound_hOk s.sound⟩
/-- what pends lies above what is trusted, the goal first, the next one last -/
structure Stack (store pend : List LightD) (goal : Int) : Prop where
  some : store ≠ []
  last : hOk (lastB store)
  low : ∀ x ∈ pend, hL (lastB store) < hL x
  down : pend.Pairwise (fun a b => hL b < hL a)
  first : pend ≠ [] → hL (firstB pend) = goal
  top : pend = [] → hL (lastB store) = goal
structure WInv (c : BcD) (goal : Int) : Prop where
  some : c.store ≠ []
  last : hOk (lastB c.store)
  low : ∀ x ∈ c.pend, hL (lastB c.store) < hL x
  down : c.pend.Pairwise (fun a b => hL b < hL a)
  idle : c.want = 0 → c.pend = []
  busy : c.want ≠ 0 → hL (lastB c.store) < c.want ∧ c.want ≤ goal ∧ (c.pend = [] → c.want = goal) ∧ (∀ x ∈ c.pend, c.want < hL x) ∧ (c.pend ≠ [] → hL (firstB c.pend) = goal)
theorem firstB_dropLast {l : List LightD} (h : l.dropLast ≠ []) : firstB l.dropLast = firstB l := by
  cases l with
  | nil => rfl
  | cons x l =>
    cases l with
    | nil => exact absurd rfl h
    | cons y l => rfl
theorem split_last {l : List LightD} (h : l ≠ []) : l = l.dropLast ++ [lastB l] := by
  have := List.dropLast_concat_getLast h
  unfold lastB
  rw [List.getLast?_eq_some_getLast h]
  exact this.symm
theorem down_first {l : List LightD} (hd : l.Pairwise (fun a b => hL b < hL a)) : ∀ x ∈ l, hL x ≤ hL (firstB l) := by
  cases l with
  | nil => simp
  | cons y l =>
    intro x hx
    rcases List.mem_cons.1 hx with rfl | hx
    · exact Int.le_refl _
    · exact Int.le_of_lt ((List.pairwise_cons.1 hd).1 x hx)
theorem climb_inv (now : Nat) (goal : Int) : ∀ (n : Nat) (c : BcD), c.pend.length = n → Stack c.store c.pend goal →
    let d := (BcD.climb now n c).1; let e := (BcD.climb now n c).2
    WInv d goal ∧ (e = 0 → d.want = 0 → hL (lastB d.store) = goal) ∧ hL (lastB c.store) ≤ hL (lastB d.store) ∧ (e = 0 → ∀ x ∈ c.pend, hL x ≤ hL (lastB d.store) ∨ x ∈ d.pend)
  | 0, c, hn, hi => by
    have hp : c.pend = [] := List.eq_nil_of_length_eq_zero hn
    unfold BcD.climb
    dsimp only
    exact ⟨⟨hi.some, hi.last, hi.low, hi.down, fun _ => hp, fun h => absurd rfl h⟩, fun _ _ => hi.top hp, Int.le_refl _, fun _ x hx => by rw [hp] at hx; cases hx⟩
  | n + 1, c, hn, hi => by
    have hp : c.pend ≠ [] := fun e => by rw [e] at hn; simp at hn
    have hsp := split_last hp
    have htl := hi.low _ (lastB_mem hp)
    have hdn := hi.down
    rw [hsp, List.pairwise_append] at hdn
    unfold BcD.climb
    dsimp only
    by_cases h0 : vstepL (lastB c.store) (lastB c.pend) now c.o = 0
    · rw [if_pos h0]
      have hst : Stack (c.store ++ [lastB c.pend]) c.pend.dropLast goal := by
        refine ⟨by simp, by rw [lastB_snoc]; exact (step_0 h0).2, ?_, hdn.1, ?_, ?_⟩
        · intro x hx
          rw [lastB_snoc]
          exact hdn.2.2 x hx _ (by simp)
        · intro h
          rw [firstB_dropLast h]; exact hi.first hp
        · intro h
          rw [lastB_snoc]
          have e : c.pend = [lastB c.pend] := by rw [hsp, h]; simp [lastB]
          have := hi.first hp
          rw [e] at this
          exact this
      obtain ⟨i1, i2, i3, i4⟩ := climb_inv now goal n { c with store := c.store ++ [lastB c.pend], pend := c.pend.dropLast } (by simp [hn]) hst
      refine ⟨i1, i2, Int.le_trans (Int.le_of_lt htl) (by rw [lastB_snoc] at i3; exact i3), fun he x hx => ?_⟩
      rw [hsp] at hx
      rcases List.mem_append.1 hx with hx | hx
      · exact i4 he x hx
      · have : x = lastB c.pend := by simpa using hx
        subst this
        rw [lastB_snoc] at i3
        exact .inl i3
    · rw [if_neg h0]
      by_cases h1 : vstepL (lastB c.store) (lastB c.pend) now c.o = 159
      · rw [if_pos h1]
        obtain ⟨k1, k2, _⟩ := step_159 h1
        have k3 := hi.last.1
        have k4 : hL (lastB c.pend) ≤ goal := by rw [← hi.first hp]; exact down_first hi.down _ (lastB_mem hp)
        unfold hL at k1 k2
        have kk : (lastB c.store).header.height < (lastB c.store).header.height + ((lastB c.pend).header.height - (lastB c.store).header.height) / 2 ∧ (lastB c.store).header.height + ((lastB c.pend).header.height - (lastB c.store).header.height) / 2 < (lastB c.pend).header.height := by omega
        refine ⟨⟨hi.some, hi.last, hi.low, hi.down, fun h => ?_, fun _ => ⟨kk.1, ?_, fun h => absurd h hp, ?_, hi.first⟩⟩, fun _ h => ?_, Int.le_refl _, fun _ x hx => .inr hx⟩
        · dsimp only at h; unfold hOk at *; omega
        · dsimp only; unfold hL at k4; omega
        · intro x hx
          dsimp only
          dsimp only at hx
          have : hL (lastB c.pend) ≤ hL x := by
            rw [hsp] at hx
            rcases List.mem_append.1 hx with hx | hx
            · exact Int.le_of_lt (hdn.2.2 x hx _ (by simp))
            · have : x = lastB c.pend := by simpa using hx
              rw [this]; exact Int.le_refl _
          unfold hL at this ⊢
          omega
        · dsimp only at h; unfold hOk at *; omega
      · rw [if_neg h1]
        refine ⟨⟨hi.some, hi.last, by simp [BcD.drop], by simp [BcD.drop], fun _ => rfl, fun h => absurd rfl h⟩, fun h => ?_, Int.le_refl _, fun h => ?_⟩
        · exact absurd h h0
        · exact absurd h h0

/-! what a block that is given does -/
theorem give_stack {c : BcD} {goal : Int} (hi : WInv c goal) {l : LightD} (hw : c.want ≠ 0) (hl : hL l = c.want) : Stack c.store (c.pend ++ [l]) goal := by
  obtain ⟨b1, b2, b3, b4, b5⟩ := hi.busy hw
  refine ⟨hi.some, hi.last, ?_, ?_, ?_, fun h => by simp at h⟩
  · intro x hx
    rcases List.mem_append.1 hx with hx | hx
    · exact hi.low x hx
    · have : x = l := by simpa using hx
      rw [this, hl]; exact b1
  · rw [List.pairwise_append]
    refine ⟨hi.down, by simp, fun x hx y hy => ?_⟩
    have : y = l := by simpa using hy
    rw [this, hl]
    exact b4 x hx
  · intro _
    by_cases hp : c.pend = []
    · rw [hp]
      show hL l = goal
      rw [hl]; exact b3 hp
    · rw [firstB_app hp]; exact b5 hp
theorem goal_inv {c : BcD} {h : Int} (hs : c.store ≠ []) (hl : hOk (lastB c.store)) (h1 : ¬ 1099511627776 < h) (h2 : ¬ h ≤ (lastB c.store).header.height) : WInv (c.goal h).1 h ∧ (c.goal h).2 = 0 := by
  unfold BcD.goal
  rw [if_neg h1, if_neg h2]
  refine ⟨⟨hs, hl, by simp, by simp, fun _ => rfl, fun _ => ⟨by unfold hL; dsimp only; omega, Int.le_refl _, fun _ => rfl, by simp, fun h => absurd rfl h⟩⟩, rfl⟩
/-- heights that were given -/
structure FInv (c : BcD) (goal from_ : Int) (H : List Int) : Prop where
  w : WInv c goal
  nd : H.Nodup
  low : from_ ≤ hL (lastB c.store)
  all : ∀ h ∈ H, from_ < h ∧ h ≤ goal ∧ (h ≤ hL (lastB c.store) ∨ ∃ x ∈ c.pend, hL x = h)
theorem fetch_new {c : BcD} {goal f : Int} {H : List Int} (hi : FInv c goal f H) (hw : c.want ≠ 0) : c.want ∉ H ∧ f < c.want ∧ c.want ≤ goal := by
  obtain ⟨b1, b2, b3, b4, b5⟩ := hi.w.busy hw
  refine ⟨fun hm => ?_, Int.lt_of_le_of_lt hi.low b1, b2⟩
  obtain ⟨_, _, h | ⟨x, hx, e⟩⟩ := hi.all _ hm
  · omega
  · have := b4 x hx; omega
theorem fetch_step {c : BcD} {goal f : Int} {H : List Int} (hi : FInv c goal f H) {l : LightD} {now : Nat} (hw : c.want ≠ 0) (hl : l.header.height = c.want) (hch : l.header.chain = (firstB c.store).header.chain) (hf : c.fet ≠ 200) :
    let d := (c.give l now).1; let e := (c.give l now).2
    d.fet = c.fet + 1 ∧ firstB d.store = firstB c.store ∧ (e ≠ 0 → d.want = 0) ∧ (e = 0 → FInv d goal f (c.want :: H) ∧ (d.want = 0 → hL (lastB d.store) = goal)) := by
  have hst := give_stack hi.w hw (show hL l = c.want from hl)
  have hg : c.give l now = BcD.climb now (c.pend.length + 1) { c with fet := c.fet + 1, pend := c.pend ++ [l] } := by
    unfold BcD.give
    rw [if_neg (by simp [hw, hl, hch]), if_neg hf]
  rw [hg]
  have hk := climb_ok now (c.pend.length + 1) { c with fet := c.fet + 1, pend := c.pend ++ [l] } hi.w.some (by simp)
  obtain ⟨i1, i2, i3, i4⟩ := climb_inv now goal (c.pend.length + 1) { c with fet := c.fet + 1, pend := c.pend ++ [l] } (by simp) hst
  dsimp only at *
  refine ⟨hk.fet, ?_, fun h => (hk.err h).1, fun he => ⟨⟨i1, ?_, Int.le_trans hi.low i3, ?_⟩, i2 he⟩⟩
  · obtain ⟨add, e, _⟩ := hk.store
    rw [e]
    exact firstB_app hi.w.some _
  · obtain ⟨n1, _, _⟩ := fetch_new hi hw
    exact List.nodup_cons.2 ⟨n1, hi.nd⟩
  · have i4 := i4 he
    intro h hh
    rcases List.mem_cons.1 hh with rfl | hh
    · obtain ⟨_, n2, n3⟩ := fetch_new hi hw
      refine ⟨n2, n3, ?_⟩
      rcases i4 l (by simp) with h | h
      · left; unfold hL at h ⊢; omega
      · exact .inr ⟨l, h, hl⟩
    · obtain ⟨n2, n3, h4 | ⟨x, hx, e⟩⟩ := hi.all h hh
      · exact ⟨n2, n3, .inl (Int.le_trans h4 i3)⟩
      · refine ⟨n2, n3, ?_⟩
        rcases i4 x (by simp [hx]) with h5 | h5
        · left; omega
        · exact .inr ⟨x, h5, e⟩
theorem nodup_len {α : Type} [DecidableEq α] : ∀ (l m : List α), l.Nodup → (∀ x ∈ l, x ∈ m) → l.length ≤ m.length
  | [], _, _, _ => Nat.zero_le _
  | x :: l, m, hn, hs => by
    have hx := hs x (by simp)
    have h2 := List.nodup_cons.1 hn
    have := nodup_len l (m.erase x) h2.2 (fun y hy => by
      have hne : y ≠ x := fun e => h2.1 (e ▸ hy)
      exact (List.mem_erase_of_ne hne).2 (hs y (by simp [hy])))
    rw [List.length_erase_of_mem hx] at this
    have := List.length_pos_of_mem hx
    rw [List.length_cons]; omega
theorem range_len {H : List Int} {a b : Int} (hn : H.Nodup) (h : ∀ x ∈ H, a < x ∧ x ≤ b) : (H.length : Int) ≤ max (b - a) 0 := by
  have h1 := nodup_len H ((List.range (b - a).toNat).map fun (i : Nat) => a + 1 + (i : Int)) hn (fun x hx => by
    have := h x hx
    rw [List.mem_map]
    exact ⟨(x - a - 1).toNat, List.mem_range.2 (by omega), by omega⟩)
  rw [List.length_map, List.length_range] at h1
  omega

/-! light blocks whose lists lie in blocks of I -/
section
variable {B n k : Nat} {w w' : World} {v : Value} {cs : List Value} {G I J : Nat → Prop} {x : LtR} {l : LightD} {ls : List LightD}
theorem RdS.tch (h : RdS B w v n k cs) (t : Tch G w w') (hv : ∀ a c, n ≠ 0 → v = .slice (some a) n c → ¬ G a.block) : RdS B w' v n k cs := by
  obtain ⟨ao, c, h1, h2, h3, h4, h5 | ⟨g, o, e, hg, hr⟩⟩ := h
  · exact ⟨ao, c, h1, h2, h3, h4, .inl h5⟩
  · subst e
    by_cases hn : n = 0
    · exact ⟨_, c, h1, h2, h3, h4, .inl hn⟩
    · exact ⟨_, c, h1, h2, h3, h4, .inr ⟨g, o, rfl, hg, t.row hr (hv _ c hn h1)⟩⟩
def LtR.inn (I : Nat → Prop) (x : LtR) : Prop := (∀ a, x.sn ≠ 0 → x.sa = some a → I a.block) ∧ (∀ a, x.tn ≠ 0 → x.ta = some a → I a.block) ∧ ∀ a, x.nn ≠ 0 → x.na = some a → I a.block
theorem LtR.inn.mono (h : x.inn I) (hI : ∀ b, I b → J b) : x.inn J := ⟨fun a h1 h2 => hI _ (h.1 a h1 h2), fun a h1 h2 => hI _ (h.2.1 a h1 h2), fun a h1 h2 => hI _ (h.2.2 a h1 h2)⟩
theorem rds_in {a : Option Addr} {m c : Nat} (h : RdS B w (.slice a m c) n k cs) : ∀ d, m ≠ 0 → a = some d → d.block < B := by
  obtain ⟨ao, c', e, _, _, _, h5 | ⟨g, o, e2, hg, _⟩⟩ := h
  · injection e with e1 e2 e3
    intro d hd; omega
  · injection e with e1 e3 e4
    subst e1 e2
    intro d _ hd
    injection hd with hd
    subst hd; exact hg
theorem LtR.of.inn (h : x.of B w l) : x.inn (· < B) := ⟨rds_in h.seals, rds_in h.set, rds_in h.next⟩
theorem LtR.of.tch (h : x.of B w l) (t : Tch G w w') (hi : x.inn I) (hG : ∀ b, I b → ¬ G b) : x.of B w' l :=
  ⟨h.header, h.height, h.round, h.block, h.seals.tch t (fun a c hn e => by injection e with e1 e2 e3; exact hG _ (hi.1 a (by omega) e1)),
    h.set.tch t (fun a c hn e => by injection e with e1 e2 e3; exact hG _ (hi.2.1 a (by omega) e1)), h.next.tch t (fun a c hn e => by injection e with e1 e2 e3; exact hG _ (hi.2.2 a (by omega) e1))⟩
/-- a light block that may be given -/
structure LightD.fit (l : LightD) : Prop where
  wf : l.wf
  seals : l.commit.seals.length ≤ 20
  set : l.set.length ≤ 20
  next : l.next.length ≤ 20
  chain : l.header.chain.size ≤ 140737488351232
/-- this value is a row of these light blocks -/
def LRow (I : Nat → Prop) (w : World) (v : Value) (ls : List LightD) : Prop :=
  ∃ xs : List LtR, SRow w 31 200 v xs.length (ltsCells xs) ∧ xs.length = ls.length ∧ ∀ (i : Nat) (x : LtR) (l : LightD), xs[i]? = some x → ls[i]? = some l → x.of w.heap.size w l ∧ x.inn I ∧ l.fit
theorem LRow.nil (I : Nat → Prop) (w : World) : LRow I w (.slice none 0 0) [] := ⟨[], SRow.nil _ _ _, rfl, fun i x l h _ => by simp at h⟩
theorem LRow.tch (h : LRow I w v ls) (t : Tch G w w') (h1 : ∀ b, v.ownBlock = some b → ¬ G b) (h2 : ∀ b, I b → ¬ G b) : LRow I w' v ls := by
  obtain ⟨xs, a1, a2, a3⟩ := h
  exact ⟨xs, a1.tch t h1, a2, fun i x l hx hl => by
    obtain ⟨b1, b2, b3⟩ := a3 i x l hx hl
    exact ⟨(b1.tch t b2 h2).mono t.size, b2, b3⟩⟩
theorem LRow.grown (h : LRow I w v ls) (t : w.grownBy w' none) : LRow I w' v ls := h.tch (G := fun _ => False) (Tch.of_grown t) (fun _ _ hf => hf) (fun _ _ hf => hf)
theorem LRow.mono (h : LRow I w v ls) (hI : ∀ b, I b → J b) : LRow J w v ls := by
  obtain ⟨xs, a1, a2, a3⟩ := h
  exact ⟨xs, a1, a2, fun i x l hx hl => by obtain ⟨b1, b2, b3⟩ := a3 i x l hx hl; exact ⟨b1, b2.mono hI, b3⟩⟩
theorem LRow.shape (h : LRow I w v ls) : ∃ a c, v = .slice a ls.length c ∧ ls.length ≤ c ∧ c ≤ maxLen := by
  obtain ⟨xs, a1, a2, _⟩ := h
  rw [← a2]; exact a1.shape
theorem LRow.lt {b : Nat} (h : LRow I w v ls) (hb : v.ownBlock = some b) : b < w.heap.size := by obtain ⟨xs, a1, _⟩ := h; exact a1.lt hb
theorem LRow.fit (h : LRow I w v ls) : ∀ l ∈ ls, l.fit := by
  obtain ⟨xs, _, a2, a3⟩ := h
  intro l hl
  obtain ⟨i, hi, rfl⟩ := List.getElem_of_mem hl
  exact (a3 i xs[i] ls[i] (List.getElem?_eq_getElem (by omega)) (List.getElem?_eq_getElem hi)).2.2
theorem lts_len (xs : List LtR) (h : ∀ x ∈ xs, x.wf) : ∀ d ∈ xs, d.cells.length = 200 := fun d hd => d.cells_length (h d hd)
theorem LRow.wfs {xs : List LtR} (hl : xs.length = ls.length) (h : ∀ (i : Nat) (x : LtR) (l : LightD), xs[i]? = some x → ls[i]? = some l → x.of w.heap.size w l ∧ x.inn I ∧ l.fit) : ∀ x ∈ xs, x.wf := by
  intro x hx
  obtain ⟨i, hi, rfl⟩ := List.getElem_of_mem hx
  obtain ⟨b1, _, b3⟩ := h i xs[i] ls[i] (List.getElem?_eq_getElem hi) (List.getElem?_eq_getElem (by omega))
  exact b1.wf b3.wf
/-- one of them -/
theorem LRow.get (h : LRow I w v ls) (i : Nat) (hi : i < ls.length) : ∃ g o c, ∃ x : LtR, v = .slice (some ⟨g, o, none⟩) ls.length c ∧ ls.length ≤ c ∧ c ≤ maxLen ∧ g < w.heap.size ∧ RowAt w g (o + i * 200) x.cells ∧ x.of w.heap.size w ls[i] ∧ x.inn I ∧ ls[i].fit := by
  obtain ⟨xs, a1, a2, a3⟩ := h
  obtain ⟨g, o, c, hv, h1, h2, h3, h4⟩ := a1.at_ (by omega)
  have hi' : i < xs.length := by omega
  obtain ⟨b1, b2, b3⟩ := a3 i xs[i] ls[i] (List.getElem?_eq_getElem hi') (List.getElem?_eq_getElem hi)
  exact ⟨g, o, c, xs[i], by rw [hv, a2], by omega, h2, h3, h4.elem (lts_len xs (LRow.wfs a2 a3)) i hi', b1, b2, b3⟩
theorem flat_take {D : Type} (f : D → List Value) (k : Nat) : ∀ (ds : List D) (m : Nat), (∀ d ∈ ds, (f d).length = k) → (ds.flatMap f).take (m * k) = (ds.take m).flatMap f
  | [], m, _ => by simp
  | d :: ds, 0, _ => by simp
  | d :: ds, m + 1, h => by
    have hd := h d (by simp)
    rw [List.flatMap_cons, List.take_succ_cons, List.flatMap_cons, show (m + 1) * k = (f d).length + m * k by rw [hd, Nat.add_mul]; omega, List.take_append, List.take_of_length_le (by omega), Nat.add_sub_cancel_left,
      flat_take f k ds m (fun d hd => h d (by simp [hd]))]
theorem flat_drop {D : Type} (f : D → List Value) (k : Nat) : ∀ (ds : List D) (m : Nat), (∀ d ∈ ds, (f d).length = k) → (ds.flatMap f).drop (m * k) = (ds.drop m).flatMap f
  | [], m, _ => by simp
  | d :: ds, 0, _ => by simp
  | d :: ds, m + 1, h => by
    have hd := h d (by simp)
    rw [List.flatMap_cons, List.drop_succ_cons, show (m + 1) * k = (f d).length + m * k by rw [hd, Nat.add_mul]; omega, ← List.drop_drop, List.drop_left,
      flat_drop f k ds m (fun d hd => h d (by simp [hd]))]
theorem LRow.cut {g o c m : Nat} (h : LRow I w (.slice (some ⟨g, o, none⟩) ls.length c) ls) (hm : m ≤ ls.length) : LRow I w (.slice (some ⟨g, o, none⟩) m c) (ls.take m) := by
  obtain ⟨xs, a1, a2, a3⟩ := h
  rw [← a2] at a1
  have hs := a1.cut (m := m) (by omega)
  unfold ltsCells at hs
  rw [flat_take LtR.cells 200 xs m (lts_len xs (LRow.wfs a2 a3))] at hs
  refine ⟨xs.take m, by rw [List.length_take, Nat.min_eq_left (by omega)]; exact hs, by rw [List.length_take, List.length_take, a2], fun i x l hx hl => ?_⟩
  rw [List.getElem?_take] at hx hl
  split at hx
  · rw [if_pos ‹_›] at hl; exact a3 i x l hx hl
  · cases hx
theorem LRow.drop {g o c m : Nat} (h : LRow I w (.slice (some ⟨g, o, none⟩) ls.length c) ls) (hm : m ≤ ls.length) : LRow I w (.slice (some ⟨g, o + m * 200, none⟩) (ls.length - m) (c - m)) (ls.drop m) := by
  obtain ⟨xs, a1, a2, a3⟩ := h
  rw [← a2] at a1
  have hs := a1.drop (m := m) (by omega)
  unfold ltsCells at hs
  rw [flat_drop LtR.cells 200 xs m (lts_len xs (LRow.wfs a2 a3)), a2] at hs
  refine ⟨xs.drop m, by rw [List.length_drop, a2]; exact hs, by rw [List.length_drop, List.length_drop, a2], fun i x l hx hl => ?_⟩
  rw [List.getElem?_drop] at hx hl
  exact a3 _ x l hx hl
theorem light_info : (Tryz.prog.info? 31).map (fun i => (i.size, i.bytes)) = some (200, 312) := by kernel_rfl
end
open Go.RowKit Go.Shelf

section
variable {P : Program} {ρ : Ren}
set_option maxHeartbeats 2000000 in
/-- an empty slice that is not nil, wherever it points to -/
theorem clone_empty (L : SlLaysE0.n41 P ρ) (i0 : TypeInfo) (z : Value) (size bytes : Nat) (hi : P.info? (ρ.t 23) = some i0) (hz0 : i0.zero = some z) (hz1 : i0.size = size) (hz2 : i0.bytes = bytes) (hzs : z.cells.size = size) (hsz : 0 < size)
    (z23 : ∀ w, (Go.sizeOf (ρ.t 23)).run P w = .ok size w) (b : Addr) (c : Nat) (w : World) :
    Calls P (ρ.f 41) #[.slice (some b) 0 c] w fun e w' => ∃ v', e = .returned v' ∧ w'.ownsRow w.heap.size (ρ.t 23) size v' 0 [] ∧ Below w.heap.size w w' := by
  have mixed := L.mixed; have t4 := L.t4; have a4 := L.a4; have z4 := L.z4; have v4 := L.v4; have t22 := L.t22; have a22 := L.a22; have z22 := L.z22; have v22 := L.v22
  have q22 : ∀ (w : World) (a : Option Addr) (n c n' c' : Nat), (binOp .eql (ρ.t 22) (.slice a n c) (.slice none n' c')).run P w = .ok (.bool a.isNone) w := fun w a n c n' c' => Lib.run_eql_slice_nil w _ _ a n c n' c' L.t22
  have u22 : ∀ w, Sem.run P (underlying (ρ.t 22)) w = .ok (TypeDesc.slice (ρ.t 23)) w := run_underlying t22
  obtain ⟨_, _, FG⟩ := L.f41
  go_enter FG, SlBodyN.n41_ntmps ρ
  go_wp2_with (at_builtin; refine wpList_append_own _ rfl _ _ (ρ.t 22) rfl w.heap.size (ρ.t 23) i0 z size bytes t22 hi hz0 hz1 hz2 hzs hsz _ _ _ rfl (World.ownsRow_made w #[] 0 (Nat.le_refl _) (Nat.zero_le _) (by simp)) b 0 c [] rfl ?qc1 ?qc2 ?qc3 ?qc4 ?qc5 ?qc6 ?_)
  case qc1 => simp
  case qc2 =>
    intro j u hj
    simp at hj
  case qc3 => simp
  case qc4 => simp
  case qc5 => simp
  case qc6 => simp
  intro v' w1 hown hgrow _
  go_wp2
  go_ret
  exact ⟨v', rfl, by simpa using hown, ((Below.refl _ w).alloc (Nat.le_refl _) _).grown hgrow (by simp) (by intro k hk; simp [Value.ownBlock] at hk; omega)⟩
theorem owns_rds {w : World} {B e k n : Nat} {v : Value} {cs : List Value} (h : w.ownsRow B e k v n cs) : ∃ a c, v = .slice a n c ∧ RdS w.heap.size w v n k cs ∧ ∀ d, a = some d → B ≤ d.block := by
  obtain ⟨h0, ⟨rfl, rfl⟩ | ⟨g, cap, cur, rfl, hB, hb, h1, h2, h3, h4⟩⟩ := id h
  · exact ⟨none, 0, rfl, ⟨none, 0, rfl, Nat.le_refl _, Nat.zero_le _, h0, .inl rfl⟩, fun d hd => by cases hd⟩
  · refine ⟨_, cap, rfl, ⟨_, cap, rfl, h1, h2, h0, .inr ⟨g, 0, rfl, Lib.lt_of_heap hb, fun j u hj => ?_⟩⟩, fun d hd => by injection hd with hd; subst hd; exact hB⟩
    have := h.cells (g := g) rfl j u hj
    rwa [addr_add] at this
theorem clone_any (L : SlLaysE0.n41 P ρ) (i0 : TypeInfo) (z : Value) (size bytes : Nat) (hi : P.info? (ρ.t 23) = some i0) (hz0 : i0.zero = some z) (hz1 : i0.size = size) (hz2 : i0.bytes = bytes) (hzs : z.cells.size = size) (hsz : 0 < size)
    (z23 : ∀ w, (Go.sizeOf (ρ.t 23)).run P w = .ok size w) {B n : Nat} {a : Option Addr} {m c : Nat} {cs : List Value} (w : World) (hr : RdS B w (.slice a m c) n size cs) (hbig : n * bytes ≤ 140737488355328) (h1 : ∀ u ∈ cs, u.oneCell' = true) :
    Calls P (ρ.f 41) #[.slice a m c] w fun e w' => ∃ a' c', e = .returned (.slice a' n c') ∧ RdS w'.heap.size w' (.slice a' n c') n size cs ∧ (∀ d, a' = some d → w.heap.size ≤ d.block) ∧ w.grownBy w' none := by
  have hgr : ∀ {w' : World}, Below w.heap.size w w' → w.grownBy w' none := fun hb => ⟨hb.os, hb.tape, hb.output, hb.size, fun k hk _ => hb.block k hk⟩
  obtain ⟨ao, c', e, hle, hcm, hl, h5⟩ := hr
  injection e with e1 e2 e3
  subst e1 e2 e3
  rcases h5 with h5 | ⟨g, o, e, hg, hrow⟩
  · subst h5
    have hcs : cs = [] := List.eq_nil_of_length_eq_zero (by simpa using hl)
    subst hcs
    cases a with
    | none =>
      refine (AnyE.slices_Clone_nil L 0 c w).mono ?_
      rintro e w' ⟨rfl, rfl⟩
      exact ⟨none, 0, rfl, ⟨none, 0, rfl, Nat.le_refl _, Nat.zero_le _, by simp, .inl rfl⟩, (fun d hd => by cases hd), World.grownBy.refl _ _⟩
    | some b =>
      refine (clone_empty L i0 z size bytes hi hz0 hz1 hz2 hzs hsz z23 b c w).mono ?_
      rintro e w' ⟨v', rfl, ho, hb⟩
      obtain ⟨a', c', rfl, k1, k2⟩ := owns_rds ho
      exact ⟨a', c', rfl, k1, k2, hgr hb⟩
  · subst e
    refine (AnyE.slices_Clone L i0 z size bytes hi hz0 hz1 hz2 hzs hsz z23 g o m c cs w hl (Nat.le_trans hle hcm) hbig (fun j u hj => hrow j u hj) h1).mono ?_
    rintro e w' ⟨v', rfl, ho, _, hb⟩
    obtain ⟨a', c', rfl, k1, k2⟩ := owns_rds ho
    exact ⟨a', c', rfl, k1, k2, hgr hb⟩
end

def cloneSRen : Go.Shelf.Ren := ⟨fun | 41 => 113 | n => n, fun | 4 => 4 | 3 => 3 | 22 => 26 | 23 => 51 | n => n, fun | n => n⟩
theorem cloneSLays : SlLaysE0.n41 Tryz.prog cloneSRen := {
  mixed := by kernel_rfl
  f41 := ⟨Tryz.f113.name, by decide +kernel, Tryz.func113.trans (congrArg some (by kernel_rfl))⟩
  t4 := Tryz.underlying4
  a4 := Tryz.isAgg4
  z4 := Tryz.sizeOf4
  v4 := Tryz.zeroValue4
  t22 := Tryz.underlying26
  a22 := Tryz.isAgg26
  z22 := Tryz.sizeOf26
  v22 := Tryz.zeroValue26 }
noncomputable def sealI : TypeInfo := (Tryz.prog.info? 51).get (by kernel_rfl)
theorem sealCells_one (ds : List SealD) : ∀ u ∈ sealCells ds, u.oneCell' = true := by
  intro u hu
  obtain ⟨d, _, hd⟩ := List.mem_flatMap.1 hu
  exact SealD_one d u hd
theorem cloneSeals {B n : Nat} {a : Option Addr} {m c : Nat} {ds : List SealD} (w : World) (hr : RdS B w (.slice a m c) n 3 (sealCells ds)) (hn : n ≤ 1000) :
    Calls Tryz.prog 113 #[.slice a m c] w fun e w' => ∃ a' c', e = .returned (.slice a' n c') ∧ RdS w'.heap.size w' (.slice a' n c') n 3 (sealCells ds) ∧ (∀ d, a' = some d → w.heap.size ≤ d.block) ∧ w.grownBy w' none :=
  clone_any cloneSLays sealI (.agg ZSeal.toArray) 3 24 (by kernel_rfl) (by kernel_rfl) (by kernel_rfl) (by kernel_rfl) rfl (by decide) Tryz.sizeOf51 w hr (by omega) (sealCells_one ds)
theorem cloneVals {B n : Nat} {a : Option Addr} {m c : Nat} {ds : List ValD} (w : World) (hr : RdS B w (.slice a m c) n 2 (setCells ds)) (hn : n ≤ 1000) :
    Calls Tryz.prog 114 #[.slice a m c] w fun e w' => ∃ a' c', e = .returned (.slice a' n c') ∧ RdS w'.heap.size w' (.slice a' n c') n 2 (setCells ds) ∧ (∀ d, a' = some d → w.heap.size ≤ d.block) ∧ w.grownBy w' none :=
  clone_any cloneLays valI (.agg #[.int .u64 0, .int .i64 0]) 2 16 (by kernel_rfl) (by kernel_rfl) (by kernel_rfl) (by kernel_rfl) rfl (by decide) Tryz.sizeOf115 w hr (by omega) (setCells_one ds)

/-- the same, of other lists -/
def LtR.lists (x : LtR) (a1 : Option Addr) (n1 c1 : Nat) (a2 : Option Addr) (n2 c2 : Nat) (a3 : Option Addr) (n3 c3 : Nat) : LtR := { x with sa := a1, sn := n1, sc := c1, ta := a2, tn := n2, tc := c2, na := a3, nn := n3, nc := c3 }
theorem LtR.put_lists {x : LtR} (hx : x.wf) (a1 : Option Addr) (n1 c1 : Nat) (a2 : Option Addr) (n2 c2 : Nat) (a3 : Option Addr) (n3 c3 : Nat) :
    ((x.cells.set 197 (.slice a1 n1 c1)).set 198 (.slice a2 n2 c2)).set 199 (.slice a3 n3 c3) = (x.lists a1 n1 c1 a2 n2 c2 a3 n3 c3).cells := by
  have h1 := x.header.cells_length hx.header
  have h2 := x.mid_length hx
  unfold LtR.cells LtR.lists
  dsimp only
  have key : ∀ (p q : List Value) (v : Value) (k n : Nat), p.length = n → n ≤ k → (p ++ q).set k v = p ++ q.set (k - n) v := fun p q v k n hp hk => by
    rw [List.set_append_right _ _ (by omega), hp]
  rw [key _ _ _ 197 163 h1 (by omega), key _ _ _ 34 34 h2 (by omega), key _ _ _ 198 163 h1 (by omega), key _ _ _ 35 34 h2 (by omega), key _ _ _ 199 163 h1 (by omega), key _ _ _ 36 34 h2 (by omega)]
  rfl
set_option maxHeartbeats 4000000 in
theorem copied_ok (x : LtR) (l : LightD) (w0 : World) (hl : l.fit) (ho : x.of w0.heap.size w0 l) :
    Calls Tryz.prog 73 #[.agg x.cells.toArray] w0 fun e w' => ∃ y : LtR, e = .returned (.agg y.cells.toArray) ∧ y.of w'.heap.size w' l ∧ y.inn (fun b => w0.heap.size ≤ b ∧ b < w'.heap.size) ∧ w0.grownBy w' none := by
  have O := OwF.start (fun _ => False) w0
  have HX := Lib.hid (ho.wf hl.wf)
  have CS := Lib.hid (fun w (g : w0.grownBy w none) => cloneSeals w (ho.grown g).seals (by have := hl.seals; omega))
  have CT := Lib.hid (fun w (g : w0.grownBy w none) => cloneVals w (ho.grown g).set (by have := hl.set; omega))
  have CN := Lib.hid (fun w (g : w0.grownBy w none) => cloneVals w (ho.grown g).next (by have := hl.next; omega))
  obtain ⟨n1, hn1⟩ : ∃ n, l.commit.seals.length = n := ⟨_, rfl⟩
  obtain ⟨n2, hn2⟩ : ∃ n, l.set.length = n := ⟨_, rfl⟩
  obtain ⟨n3, hn3⟩ : ∃ n, l.next.length = n := ⟨_, rfl⟩
  have HO := Lib.hid ho; have HN := Lib.hid (show l.commit.seals.length = n1 ∧ l.set.length = n2 ∧ l.next.length = n3 from ⟨hn1, hn2, hn3⟩)
  rw [hn1] at CS; rw [hn2] at CT; rw [hn3] at CN
  clear hn1 hn2 hn3 ho hl
  go_enter Tryz.func73, Tryz.ntmps73
  go_upto_region 1 with (first | ((with_reducible refine @wpList_at _ _ _ _ _ _ _ (.box 31 (.tmp 0)) rfl ?_); refine @wpList_of_box _ _ _ _ _ _ _ _ _ _ 31 (.tmp 0) rfl x.cells rfl O rfl ?_; clear O; intro bi w O) | ((with_reducible refine @wpList_at _ _ _ _ _ _ _ (.alloc 31) rfl ?_); refine @wpList_of_alloc _ _ _ _ _ _ _ _ _ _ 31 rfl ZLt0 ZLt0_info O rfl ?_; clear O; intro bo w O))
  replace O := O.drew
  obtain ⟨S, hS⟩ : ∃ s, w.drew.heap.size = s := ⟨_, rfl⟩
  have hbi := (O.at_ 1 rfl).lt; have hbo := (O.at_ 0 rfl).lt
  rw [hS] at hbi hbo
  have HSZ := Lib.hid O.tch.size
  refine wp_region_J (rdf [(2, bi, 197, [(.slice x.sa x.sn x.sc)]), (5, bi, 198, [(.slice x.ta x.tn x.tc)]), (8, bi, 199, [(.slice x.na x.nn x.nc)])]) [3, 6, 9, 12, 14, 16] (by kernel_rfl) (RdA.cons (O.cellr (n := 1) rfl (x.get_seals HX.out)) (RdA.cons (O.cellr (n := 1) rfl (x.get_set HX.out)) (RdA.cons (O.cellr (n := 1) rfl (x.get_next HX.out)) RdA.nil))) (fun hH => ?_)
  refine wpAnyJ_pure (i := 0) (v := (.pointer (some ⟨bi, 163, none⟩))) rfl (by kernel_rfl) (by kernel_rfl) (by kernel_rfl) (fun _ _ _ h => h) (by rfl) (Or.inl ⟨by rfl, fun W _ => by go_simp⟩) (Still.all hH) ?_
  simp only [Act.put, List.getElem_toArray, List.getElem_cons_zero, List.setIfInBounds_toArray, List.set_cons_zero, List.set_cons_succ]
  refine wpAnyJ_pure (i := 1) (v := (.pointer (some ⟨bi, 197, none⟩))) rfl (by kernel_rfl) (by kernel_rfl) (by kernel_rfl) (fun _ _ _ h => h) (by rfl) (Or.inl ⟨by rfl, fun W _ => by go_simp⟩) (Still.all hH) ?_
  simp only [Act.put, List.getElem_toArray, List.getElem_cons_succ, List.getElem_cons_zero, List.setIfInBounds_toArray, List.set_cons_zero, List.set_cons_succ]
  refine wpAnyJ_read 0 (i := 2) (v := (.slice x.sa x.sn x.sc)) rfl rfl (by kernel_rfl) (by kernel_rfl) (by kernel_rfl) (fun _ _ _ h => h) (by rfl) (yields_cell (by rfl) 26 _ rfl bi 197 rfl (.slice x.sa x.sn x.sc) _ (fun W h => h) Tryz.underlying26 rfl) (Still.all hH) ?_
  simp only [Act.put, List.getElem_toArray, List.getElem_cons_succ, List.getElem_cons_zero, List.setIfInBounds_toArray, List.set_cons_zero, List.set_cons_succ]
  refine wpAnyJ_pure (i := 4) (v := (.pointer (some ⟨bi, 198, none⟩))) rfl (by kernel_rfl) (by kernel_rfl) (by kernel_rfl) (fun _ _ _ h => h) (by rfl) (Or.inl ⟨by rfl, fun W _ => by go_simp⟩) (Still.all hH) ?_
  simp only [Act.put, List.getElem_toArray, List.getElem_cons_succ, List.getElem_cons_zero, List.setIfInBounds_toArray, List.set_cons_zero, List.set_cons_succ]
  refine wpAnyJ_read 1 (i := 5) (v := (.slice x.ta x.tn x.tc)) rfl rfl (by kernel_rfl) (by kernel_rfl) (by kernel_rfl) (fun _ _ _ h => h) (by rfl) (yields_cell (by rfl) 29 _ rfl bi 198 rfl (.slice x.ta x.tn x.tc) _ (fun W h => h) Tryz.underlying29 rfl) (Still.all hH) ?_
  simp only [Act.put, List.getElem_toArray, List.getElem_cons_succ, List.getElem_cons_zero, List.setIfInBounds_toArray, List.set_cons_zero, List.set_cons_succ]
  refine wpAnyJ_pure (i := 7) (v := (.pointer (some ⟨bi, 199, none⟩))) rfl (by kernel_rfl) (by kernel_rfl) (by kernel_rfl) (fun _ _ _ h => h) (by rfl) (Or.inl ⟨by rfl, fun W _ => by go_simp⟩) (Still.all hH) ?_
  simp only [Act.put, List.getElem_toArray, List.getElem_cons_succ, List.getElem_cons_zero, List.setIfInBounds_toArray, List.set_cons_zero, List.set_cons_succ]
  refine wpAnyJ_read 2 (i := 8) (v := (.slice x.na x.nn x.nc)) rfl rfl (by kernel_rfl) (by kernel_rfl) (by kernel_rfl) (fun _ _ _ h => h) (by rfl) (yields_cell (by rfl) 29 _ rfl bi 199 rfl (.slice x.na x.nn x.nc) _ (fun W h => h) Tryz.underlying29 rfl) (Still.all hH) ?_
  simp only [Act.put, List.getElem_toArray, List.getElem_cons_succ, List.getElem_cons_zero, List.setIfInBounds_toArray, List.set_cons_zero, List.set_cons_succ]
  refine wpAnyJ_ready (rs := [3]) (by kernel_rfl) (by simp) ?_
  refine AllJ.keep rfl (by rfl) (by rfl) (fun K hK => ?_) (AllJ.nil)
  refine wp_call 113 _ _ (by rfl) (enters Tryz.func113 (by kernel_rfl) rfl) (by rfl) (CS.out _ (O.tch.grown (fun _ h => h.elim))) ?_
  rintro e u ⟨a1, c1, rfl, r1, d1, g1⟩
  refine ⟨_, rfl, ?_⟩
  replace O := O.call g1
  simp only [Act.put, List.getElem_toArray, List.getElem_cons_succ, List.getElem_cons_zero, List.setIfInBounds_toArray, List.set_cons_zero, List.set_cons_succ]
  refine hK.out _ _ (RdA.grown hH g1) ?_
  replace hH := RdA.grown hH g1
  clear hK K
  refine wpAnyJ_pure (i := 10) (v := (.pointer (some ⟨bi, 163, none⟩))) rfl (by kernel_rfl) (by kernel_rfl) (by kernel_rfl) (fun _ _ _ h => h) (by rfl) (Or.inl ⟨by rfl, fun W _ => by go_simp⟩) (Still.all hH) ?_
  simp only [Act.put, List.getElem_toArray, List.getElem_cons_succ, List.getElem_cons_zero, List.setIfInBounds_toArray, List.set_cons_zero, List.set_cons_succ]
  refine wpAnyJ_pure (i := 11) (v := (.pointer (some ⟨bi, 197, none⟩))) rfl (by kernel_rfl) (by kernel_rfl) (by kernel_rfl) (fun _ _ _ h => h) (by rfl) (Or.inl ⟨by rfl, fun W _ => by go_simp⟩) (Still.all hH) ?_
  simp only [Act.put, List.getElem_toArray, List.getElem_cons_succ, List.getElem_cons_zero, List.setIfInBounds_toArray, List.set_cons_zero, List.set_cons_succ]
  refine wpAnyJ_ready (rs := [6]) (by kernel_rfl) (by simp) ?_
  refine AllJ.keep rfl (by rfl) (by rfl) (fun K hK => ?_) (AllJ.nil)
  refine wp_call 114 _ _ (by rfl) (enters Tryz.func114 (by kernel_rfl) rfl) (by rfl) (CT.out _ (O.tch.grown (fun _ h => h.elim))) ?_
  rintro e u ⟨a2, c2, rfl, r2, d2, g2⟩
  refine ⟨_, rfl, ?_⟩
  replace O := O.call g2
  simp only [Act.put, List.getElem_toArray, List.getElem_cons_succ, List.getElem_cons_zero, List.setIfInBounds_toArray, List.set_cons_zero, List.set_cons_succ]
  refine hK.out _ _ (RdA.grown hH g2) ?_
  replace hH := RdA.grown hH g2
  clear hK K
  refine wpAnyJ_ready (rs := [9]) (by kernel_rfl) (by simp) ?_
  refine AllJ.keep rfl (by rfl) (by rfl) (fun K hK => ?_) (AllJ.nil)
  refine wp_call 114 _ _ (by rfl) (enters Tryz.func114 (by kernel_rfl) rfl) (by rfl) (CN.out _ (O.tch.grown (fun _ h => h.elim))) ?_
  rintro e u ⟨a3, c3, rfl, r3, d3, g3⟩
  refine ⟨_, rfl, ?_⟩
  replace O := O.call g3
  have G0 := Lib.hid O.tch
  replace O := O.again (S := S) (by simp only [List.mem_cons, List.not_mem_nil, or_false]; rintro e (rfl | rfl) <;> first | exact hbo | exact hbi)
  simp only [Act.put, List.getElem_toArray, List.getElem_cons_succ, List.getElem_cons_zero, List.setIfInBounds_toArray, List.set_cons_zero, List.set_cons_succ]
  refine hK.out _ _ (RdA.grown hH g3) ?_
  replace hH := RdA.grown hH g3
  clear hK K
  refine wpAnyJ_ready (rs := [12]) (by kernel_rfl) (by simp) ?_
  refine AllJ.turn rfl (by rfl) (by rfl) (fun K hK => ?_) (AllJ.nil)
  refine wp_of_store_cell 26 _ _ rfl O 1 bi 197 rfl (.slice a1 n1 c1) rfl (by kernel_rfl) _ _ rfl (by rw [x.cells_length HX.out]; decide) rfl ?_
  clear O
  intro w O
  simp only [List.set_cons_zero, List.set_cons_succ] at O
  simp only [Act.put, List.getElem_toArray, List.getElem_cons_succ, List.getElem_cons_zero]
  refine hK.out _ _ (waits_all (by kernel_rfl)) ?_
  clear hK K hH
  refine wpAnyJ_pure (i := 13) (v := (.pointer (some ⟨bi, 198, none⟩))) rfl (by kernel_rfl) (by kernel_rfl) (by kernel_rfl) (fun _ _ _ h => h) (by rfl) (Or.inl ⟨by rfl, fun W _ => by go_simp⟩) (Still.none (by kernel_rfl)) ?_
  simp only [Act.put, List.getElem_toArray, List.getElem_cons_succ, List.getElem_cons_zero]
  refine wpAnyJ_ready (rs := [14]) (by kernel_rfl) (by simp) ?_
  refine AllJ.turn rfl (by rfl) (by rfl) (fun K hK => ?_) (AllJ.nil)
  refine wp_of_store_cell 29 _ _ rfl O 1 bi 198 rfl (.slice a2 n2 c2) rfl (by kernel_rfl) _ _ rfl (by simp only [List.length_set]; rw [x.cells_length HX.out]; decide) rfl ?_
  clear O
  intro w O
  simp only [List.set_cons_zero, List.set_cons_succ] at O
  simp only [Act.put, List.getElem_toArray, List.getElem_cons_succ, List.getElem_cons_zero, List.setIfInBounds_toArray, List.set_cons_zero, List.set_cons_succ]
  refine hK.out _ _ (waits_all (by kernel_rfl)) ?_
  clear hK K
  refine wpAnyJ_pure (i := 15) (v := (.pointer (some ⟨bi, 199, none⟩))) rfl (by kernel_rfl) (by kernel_rfl) (by kernel_rfl) (fun _ _ _ h => h) (by rfl) (Or.inl ⟨by rfl, fun W _ => by go_simp⟩) (Still.none (by kernel_rfl)) ?_
  simp only [Act.put, List.getElem_toArray, List.getElem_cons_succ, List.getElem_cons_zero, List.setIfInBounds_toArray, List.set_cons_zero, List.set_cons_succ]
  refine wpAnyJ_ready (rs := [16]) (by kernel_rfl) (by simp) ?_
  refine AllJ.turn rfl (by rfl) (by rfl) (fun K hK => ?_) (AllJ.nil)
  refine wp_of_store_cell 29 _ _ rfl O 1 bi 199 rfl (.slice a3 n3 c3) rfl (by kernel_rfl) _ _ rfl (by simp only [List.length_set]; rw [x.cells_length HX.out]; decide) rfl ?_
  clear O
  intro w O
  simp only [List.set_cons_zero, List.set_cons_succ] at O
  simp only [Act.put, List.getElem_toArray, List.getElem_cons_succ, List.getElem_cons_zero]
  refine hK.out _ _ (waits_all (by kernel_rfl)) ?_
  clear hK K
  refine wpAnyJ_done (by kernel_rfl) ?_ _
  rw [LtR.put_lists HX.out] at O
  have HY := Lib.hid (show LtR.wf (x.lists a1 n1 c1 a2 n2 c2 a3 n3 c3) from ⟨HX.out.header, HX.out.block, (rds_n r1).2.1, (rds_n r2).2.1, (rds_n r3).2.1⟩)
  go_wp2_with (first | ((with_reducible refine @wpList_at _ _ _ _ _ _ _ (.load 31 (.tmp 1)) rfl ?_); refine @wpList_of_whole _ _ _ _ _ _ _ _ _ _ 31 (.tmp 1) rfl O 1 bi rfl (x.lists a1 n1 c1 a2 n2 c2 a3 n3 c3).cells _ rfl _ Tryz.underlying31 rfl (sizeLt _ HY.out) rfl ?_) | ((with_reducible refine @wpList_at _ _ _ _ _ _ _ (.store 31 (.tmp 2) (.tmp 17)) rfl ?_); refine @wpList_of_store _ _ _ _ _ _ _ _ _ _ 31 (.tmp 2) (.tmp 17) rfl O 0 bo rfl (x.lists a1 n1 c1 a2 n2 c2 a3 n3 c3).cells ZLt0 _ rfl rfl (LtR.cells_length _ HY.out) (LtR_one _) (sizeLt _ HY.out) rfl ?_; clear O; intro w O; simp only [List.set_cons_zero] at O))
  refine bodyPost_ret (results_cell_one rfl _ _ ⟨bo, 0, none⟩ _ rfl (run_loadVar_part _ _ _ 31 _ _ (O.row_of (g := bo) (T := 31) (by simp)) Tryz.underlying31 rfl (sizeLt _ HY.out))) rfl ?_
  have t := O.tch
  have z1 := g1.size; have z2 := g2.size; have z3 := g3.size; have z4 := t.size
  rw [hS] at d1
  have e2 : ∀ d, a2 = some d → S ≤ d.block := fun d h => by have := d2 d h; omega
  have e3 : ∀ d, a3 = some d → S ≤ d.block := fun d h => by have := d3 d h; omega
  have s1 := ((r1.grown g2).grown g3).tch t (fun a c _ e => by injection e with e _ _; have := d1 a e; omega)
  have s2 := (r2.grown g3).tch t (fun a c _ e => by injection e with e _ _; have := e2 a e; omega)
  have s3 := r3.tch t (fun a c _ e => by injection e with e _ _; have := e3 a e; omega)
  have q1 := rds_in s1; have q2 := rds_in s2; have q3 := rds_in s3
  have zs : w0.heap.size ≤ S := by rw [← hS]; exact HSZ.out
  have g := (G0.out.join t).grown (fun _ h => h.elim)
  obtain ⟨k1, k2, k3⟩ := HN.out
  have h := HO.out
  subst k1 k2 k3
  exact ⟨_, rfl, ⟨h.header, h.height, h.round, h.block, s1.mono (by omega), s2.mono (by omega), s3.mono (by omega)⟩,
    ⟨fun a hn e => ⟨by have := d1 a e; omega, by have := q1 a hn e; omega⟩, fun a hn e => ⟨by have := e2 a e; omega, by have := q2 a hn e; omega⟩, fun a hn e => ⟨by have := e3 a e; omega, by have := q3 a hn e; omega⟩⟩, g⟩

end Go.Proofs.YtdhchehagfmjcaaGreatDoor
