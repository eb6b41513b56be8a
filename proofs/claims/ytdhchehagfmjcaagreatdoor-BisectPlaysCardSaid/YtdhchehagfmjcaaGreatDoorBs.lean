import Derived.Test.YtdhchehagfmjcaaGreatDoorVf
import Derived.Test.YtdhchehagfmjcaaGreatDoorDrw
import Derived.Test.YtdhchehagfmjcaaGreatDoorLx
import Derived.Test.YtdhchehagfmjcaaGreatDoorAl
import Derived.Test.YtdhchehagfmjcaaGreatDoorTs
namespace Go.Proofs.YtdhchehagfmjcaaGreatDoor
open Go.RowKit
set_option maxRecDepth 100000
structure BcD where
 o : OptD
 store : List LightD
 pend : List LightD
 want : Int
 fet : Int
 frm : Int
def zeroL : LightD := ⟨⟨⟨#[]⟩, 0, 0, List.replicate 32 0, List.replicate 32 0, List.replicate 32 0, List.replicate 32 0, List.replicate 32 0⟩, ⟨0, 0, List.replicate 32 0, []⟩, [], []⟩
def lastB (l : List LightD) : LightD := (l.getLast?).getD zeroL
def firstB (l : List LightD) : LightD := (l.head?).getD zeroL
def BcD.new (root : LightD) (o : OptD) : BcD := ⟨o, [root], [], 0, 0, -1⟩
def bnewE (root : LightD) (now : Nat) (o : OptD) : Int :=
 if rightO o = false then 151 else if finB now = false then 154 else if soundL root.header.chain root ≠ 0 then soundL root.header.chain root else if expF root.header.time now o = true then 155 else 0
def BcD.drop (c : BcD) : BcD := { c with pend := [], want := 0 }
def BcD.goal (c : BcD) (h : Int) : BcD × Int :=
 if 1099511627776 < h then (c, 1) else if h ≤ (lastB c.store).header.height then (c, 153) else
 ({ c with pend := [], want := h, fet := 0, frm := (c.store.length : Int) - 1 }, 0)
def BcD.climb (now : Nat) : Nat → BcD → BcD × Int
 | 0, c => ({ c with want := 0 }, 0)
 | n + 1, c =>
  let top := lastB c.pend
  let base := lastB c.store
  let e := vstepL base top now c.o
  if e = 0 then BcD.climb now n { c with store := c.store ++ [top], pend := c.pend.dropLast }
  else if e = 159 then ({ c with want := base.header.height + (top.header.height - base.header.height) / 2 }, 0)
  else (c.drop, e)
def BcD.give (c : BcD) (l : LightD) (now : Nat) : BcD × Int :=
 if c.want = 0 ∨ l.header.height ≠ c.want ∨ l.header.chain ≠ (firstB c.store).header.chain then (c, 161) else if c.fet = 200 then (c.drop, 162) else
 BcD.climb now (c.pend.length + 1) { c with fet := c.fet + 1, pend := c.pend ++ [l] }
def BcD.trace (c : BcD) : List LightD := if c.frm < 0 then [] else c.store.drop c.frm.toNat
def BcD.prune (c : BcD) (n : Int) : BcD × Int :=
 if n < 1 then (c, 1) else ({ c with pend := [], want := 0, frm := -1, store := c.store.drop (c.store.length - n.toNat) }, 0)
def hOk (l : LightD) : Prop := 1 ≤ l.header.height ∧ l.header.height ≤ 1099511627776
theorem lastB_mem {l : List LightD} (h : l ≠ []) : lastB l ∈ l := by
 unfold lastB
 rw [List.getLast?_eq_some_getLast h]
 exact List.getLast_mem h
def hL (l : LightD) : Int := l.header.height
theorem sound_hOk {chain : ByteArray} {l : LightD} (h : soundL chain l = 0) : hOk l := by
 have := (sound_iff.1 h).header
 unfold okHeader inR at this
 simp only [Bool.and_eq_true, decide_eq_true_eq] at this
 exact this.2.1
theorem sound_code (chain : ByteArray) (l : LightD) : soundL chain l ≠ 159 := by
 unfold soundL
 split
 ·decide
 split
 ·decide
 split
 ·decide
 split
 ·decide
 split
 ·decide
 split
 ·decide
 split
 ·decide
 ·rename_i h _ _ _
  rcases check_two (ds := l.set) (chain := chain) (c := l.commit) (by simpa using ‹¬ rightL l.set = false›) with e | e <;> rw [e] <;> decide
theorem step_159 {a b : LightD} {now : Nat} {o : OptD} (h : vstepL a b now o = 159) : hL a < hL b ∧ hL b - 1 ≠ hL a ∧ soundL a.header.chain b = 0 := by
 unfold vstepL at h
 by_cases h1 : rightO o = false
 ·rw [if_pos h1] at h; exact absurd h (by decide)
 rw [if_neg h1] at h
 by_cases h2 : finB now = false
 ·rw [if_pos h2] at h; exact absurd h (by decide)
 rw [if_neg h2] at h
 by_cases h3 : expF a.header.time now o = true
 ·rw [if_pos h3] at h; exact absurd h (by decide)
 rw [if_neg h3] at h
 by_cases h4 : b.header.height ≤ a.header.height ∨ b.header.time ≤ a.header.time
 ·rw [if_pos h4] at h; exact absurd h (by decide)
 rw [if_neg h4] at h
 by_cases h5 : gtF (subF (i2f b.header.time) now) o.drift = true
 ·rw [if_pos h5] at h; exact absurd h (by decide)
 rw [if_neg h5] at h
 by_cases h6 : soundL a.header.chain b ≠ 0
 ·rw [if_pos h6] at h; exact absurd h (sound_code _ _)
 rw [if_neg h6] at h
 refine ⟨by unfold hL; omega, ?_, by simpa using h6⟩
 intro e
 unfold hL at e
 rw [if_pos e] at h
 unfold nextL at h
 split at h
 ·exact absurd h (by decide)
 ·split at h
  ·exact absurd h (by decide)
  ·exact absurd h (by decide)
theorem step_0 {a b : LightD} {now : Nat} {o : OptD} (h : vstepL a b now o = 0) : hL a < hL b ∧ hOk b := by
 have s := step_iff.1 h
 exact ⟨s.height, sound_hOk s.sound⟩
section
variable {B n k : Nat} {w w' : World} {v : Value} {cs : List Value} {G I J : Nat → Prop} {x : LtR} {l : LightD} {ls : List LightD}
theorem RdS.tch (h : RdS B w v n k cs) (t : Tch G w w') (hv : ∀ a c, n ≠ 0 → v = .slice (some a) n c → ¬ G a.block) : RdS B w' v n k cs := by
 obtain ⟨ao, c, h1, h2, h3, h4, h5 | ⟨g, o, e, hg, hr⟩⟩ := h
 ·exact ⟨ao, c, h1, h2, h3, h4, .inl h5⟩
 ·subst e
  by_cases hn : n = 0
  ·exact ⟨_, c, h1, h2, h3, h4, .inl hn⟩
  ·exact ⟨_, c, h1, h2, h3, h4, .inr ⟨g, o, rfl, hg, t.row hr (hv _ c hn h1)⟩⟩
def LtR.inn (I : Nat → Prop) (x : LtR) : Prop := (∀ a, x.sn ≠ 0 → x.sa = some a → I a.block) ∧ (∀ a, x.tn ≠ 0 → x.ta = some a → I a.block) ∧ ∀ a, x.nn ≠ 0 → x.na = some a → I a.block
theorem LtR.inn.mono (h : x.inn I) (hI : ∀ b, I b → J b) : x.inn J := ⟨fun a h1 h2 => hI _ (h.1 a h1 h2), fun a h1 h2 => hI _ (h.2.1 a h1 h2), fun a h1 h2 => hI _ (h.2.2 a h1 h2)⟩
theorem rds_in {a : Option Addr} {m c : Nat} (h : RdS B w (.slice a m c) n k cs) : ∀ d, m ≠ 0 → a = some d → d.block < B := by
 obtain ⟨ao, c', e, _, _, _, h5 | ⟨g, o, e2, hg, _⟩⟩ := h
 ·injection e with e1 e2 e3
  intro d hd; omega
 ·injection e with e1 e3 e4
  subst e1 e2
  intro d _ hd
  injection hd with hd
  subst hd; exact hg
theorem LtR.of.inn (h : x.of B w l) : x.inn (· < B) := ⟨rds_in h.seals, rds_in h.set, rds_in h.next⟩
theorem LtR.of.tch (h : x.of B w l) (t : Tch G w w') (hi : x.inn I) (hG : ∀ b, I b → ¬ G b) : x.of B w' l :=
 ⟨h.header, h.height, h.round, h.block, h.seals.tch t (fun a c hn e => by injection e with e1 e2 e3; exact hG _ (hi.1 a (by omega) e1)),
  h.set.tch t (fun a c hn e => by injection e with e1 e2 e3; exact hG _ (hi.2.1 a (by omega) e1)), h.next.tch t (fun a c hn e => by injection e with e1 e2 e3; exact hG _ (hi.2.2 a (by omega) e1))⟩
structure LightD.fit (l : LightD) : Prop where
 wf : l.wf
 seals : l.commit.seals.length ≤ 20
 set : l.set.length ≤ 20
 next : l.next.length ≤ 20
 chain : l.header.chain.size ≤ 140737488351232
def LRow (I : Nat → Prop) (w : World) (v : Value) (ls : List LightD) : Prop :=
 ∃ xs : List LtR, SRow w 31 200 v xs.length (ltsCells xs) ∧ xs.length = ls.length ∧ ∀ (i : Nat) (x : LtR) (l : LightD), xs[i]? = some x → ls[i]? = some l → x.of w.heap.size w l ∧ x.inn I ∧ l.fit
theorem LRow.nil (I : Nat → Prop) (w : World) : LRow I w (.slice none 0 0) [] := ⟨[], SRow.nil _ _ _, rfl, fun i x l h _ => by simp at h⟩
theorem LRow.tch (h : LRow I w v ls) (t : Tch G w w') (h1 : ∀ b, v.ownBlock = some b → ¬ G b) (h2 : ∀ b, I b → ¬ G b) : LRow I w' v ls := by
 obtain ⟨xs, a1, a2, a3⟩ := h
 exact ⟨xs, a1.tch t h1, a2, fun i x l hx hl => by
  obtain ⟨b1, b2, b3⟩ := a3 i x l hx hl
  exact ⟨(b1.tch t b2 h2).mono t.size, b2, b3⟩⟩
theorem LRow.grown (h : LRow I w v ls) (t : w.grownBy w' none) : LRow I w' v ls := h.tch (G := fun _ => False) (Tch.of_grown t) (fun _ _ hf => hf) (fun _ _ hf => hf)
theorem LRow.mono (h : LRow I w v ls) (hI : ∀ b, I b → J b) : LRow J w v ls := by
 obtain ⟨xs, a1, a2, a3⟩ := h
 exact ⟨xs, a1, a2, fun i x l hx hl => by obtain ⟨b1, b2, b3⟩ := a3 i x l hx hl; exact ⟨b1, b2.mono hI, b3⟩⟩
theorem LRow.shape (h : LRow I w v ls) : ∃ a c, v = .slice a ls.length c ∧ ls.length ≤ c ∧ c ≤ maxLen := by
 obtain ⟨xs, a1, a2, _⟩ := h
 rw [← a2]; exact a1.shape
theorem LRow.lt {b : Nat} (h : LRow I w v ls) (hb : v.ownBlock = some b) : b < w.heap.size := by obtain ⟨xs, a1, _⟩ := h; exact a1.lt hb
theorem lts_len (xs : List LtR) (h : ∀ x ∈ xs, x.wf) : ∀ d ∈ xs, d.cells.length = 200 := fun d hd => d.cells_length (h d hd)
theorem LRow.wfs {xs : List LtR} (hl : xs.length = ls.length) (h : ∀ (i : Nat) (x : LtR) (l : LightD), xs[i]? = some x → ls[i]? = some l → x.of w.heap.size w l ∧ x.inn I ∧ l.fit) : ∀ x ∈ xs, x.wf := by
 intro x hx
 obtain ⟨i, hi, rfl⟩ := List.getElem_of_mem hx
 obtain ⟨b1, _, b3⟩ := h i xs[i] ls[i] (List.getElem?_eq_getElem hi) (List.getElem?_eq_getElem (by omega))
 exact b1.wf b3.wf
theorem LRow.get (h : LRow I w v ls) (i : Nat) (hi : i < ls.length) : ∃ g o c, ∃ x : LtR, v = .slice (some ⟨g, o, none⟩) ls.length c ∧ ls.length ≤ c ∧ c ≤ maxLen ∧ g < w.heap.size ∧ RowAt w g (o + i * 200) x.cells ∧ x.of w.heap.size w ls[i] ∧ x.inn I ∧ ls[i].fit := by
 obtain ⟨xs, a1, a2, a3⟩ := h
 obtain ⟨g, o, c, hv, h1, h2, h3, h4⟩ := a1.at_ (by omega)
 have hi' : i < xs.length := by omega
 obtain ⟨b1, b2, b3⟩ := a3 i xs[i] ls[i] (List.getElem?_eq_getElem hi') (List.getElem?_eq_getElem hi)
 exact ⟨g, o, c, xs[i], by rw [hv, a2], by omega, h2, h3, h4.elem (lts_len xs (LRow.wfs a2 a3)) i hi', b1, b2, b3⟩
theorem flat_take {D : Type} (f : D → List Value) (k : Nat) : ∀ (ds : List D) (m : Nat), (∀ d ∈ ds, (f d).length = k) → (ds.flatMap f).take (m * k) = (ds.take m).flatMap f
 | [], m, _ => by simp
 | d :: ds, 0, _ => by simp
 | d :: ds, m + 1, h => by
  have hd := h d (by simp)
  rw [List.flatMap_cons, List.take_succ_cons, List.flatMap_cons, show (m + 1) * k = (f d).length + m * k by rw [hd, Nat.add_mul]; omega, List.take_append, List.take_of_length_le (by omega), Nat.add_sub_cancel_left,
   flat_take f k ds m (fun d hd => h d (by simp [hd]))]
theorem flat_drop {D : Type} (f : D → List Value) (k : Nat) : ∀ (ds : List D) (m : Nat), (∀ d ∈ ds, (f d).length = k) → (ds.flatMap f).drop (m * k) = (ds.drop m).flatMap f
 | [], m, _ => by simp
 | d :: ds, 0, _ => by simp
 | d :: ds, m + 1, h => by
  have hd := h d (by simp)
  rw [List.flatMap_cons, List.drop_succ_cons, show (m + 1) * k = (f d).length + m * k by rw [hd, Nat.add_mul]; omega, ← List.drop_drop, List.drop_left,
   flat_drop f k ds m (fun d hd => h d (by simp [hd]))]
theorem LRow.cut {g o c m : Nat} (h : LRow I w (.slice (some ⟨g, o, none⟩) ls.length c) ls) (hm : m ≤ ls.length) : LRow I w (.slice (some ⟨g, o, none⟩) m c) (ls.take m) := by
 obtain ⟨xs, a1, a2, a3⟩ := h
 rw [← a2] at a1
 have hs := a1.cut (m := m) (by omega)
 unfold ltsCells at hs
 rw [flat_take LtR.cells 200 xs m (lts_len xs (LRow.wfs a2 a3))] at hs
 refine ⟨xs.take m, by rw [List.length_take, Nat.min_eq_left (by omega)]; exact hs, by rw [List.length_take, List.length_take, a2], fun i x l hx hl => ?_⟩
 rw [List.getElem?_take] at hx hl
 split at hx
 ·rw [if_pos ‹_›] at hl; exact a3 i x l hx hl
 ·cases hx
theorem LRow.drop {g o c m : Nat} (h : LRow I w (.slice (some ⟨g, o, none⟩) ls.length c) ls) (hm : m ≤ ls.length) : LRow I w (.slice (some ⟨g, o + m * 200, none⟩) (ls.length - m) (c - m)) (ls.drop m) := by
 obtain ⟨xs, a1, a2, a3⟩ := h
 rw [← a2] at a1
 have hs := a1.drop (m := m) (by omega)
 unfold ltsCells at hs
 rw [flat_drop LtR.cells 200 xs m (lts_len xs (LRow.wfs a2 a3)), a2] at hs
 refine ⟨xs.drop m, by rw [List.length_drop, a2]; exact hs, by rw [List.length_drop, List.length_drop, a2], fun i x l hx hl => ?_⟩
 rw [List.getElem?_drop] at hx hl
 exact a3 _ x l hx hl
end
open Go.RowKit Go.Shelf
section
variable {P : Program} {ρ : Ren}
set_option maxHeartbeats 2000000 in
theorem clone_empty (L : SlLaysE0.n41 P ρ) (i0 : TypeInfo) (z : Value) (size bytes : Nat) (hi : P.info? (ρ.t 23) = some i0) (hz0 : i0.zero = some z) (hz1 : i0.size = size) (hz2 : i0.bytes = bytes) (hzs : z.cells.size = size) (hsz : 0 < size)
  (z23 : ∀ w, (Go.sizeOf (ρ.t 23)).run P w = .ok size w) (b : Addr) (c : Nat) (w : World) :
  Calls P (ρ.f 41) #[.slice (some b) 0 c] w fun e w' => ∃ v', e = .returned v' ∧ w'.ownsRow w.heap.size (ρ.t 23) size v' 0 [] ∧ Below w.heap.size w w' := by
 have mixed := L.mixed; have t4 := L.t4; have a4 := L.a4; have z4 := L.z4; have v4 := L.v4; have t22 := L.t22; have a22 := L.a22; have z22 := L.z22; have v22 := L.v22
 have q22 : ∀ (w : World) (a : Option Addr) (n c n' c' : Nat), (binOp .eql (ρ.t 22) (.slice a n c) (.slice none n' c')).run P w = .ok (.bool a.isNone) w := fun w a n c n' c' => Lib.run_eql_slice_nil w _ _ a n c n' c' L.t22
 have u22 : ∀ w, Sem.run P (underlying (ρ.t 22)) w = .ok (TypeDesc.slice (ρ.t 23)) w := run_underlying t22
 obtain ⟨_, _, FG⟩ := L.f41
 go_enter FG, SlBodyN.n41_ntmps ρ
 go_wp2_with (at_builtin; refine wpList_append_own _ rfl _ _ (ρ.t 22) rfl w.heap.size (ρ.t 23) i0 z size bytes t22 hi hz0 hz1 hz2 hzs hsz _ _ _ rfl (World.ownsRow_made w #[] 0 (Nat.le_refl _) (Nat.zero_le _) (by simp)) b 0 c [] rfl ?qc1 ?qc2 ?qc3 ?qc4 ?qc5 ?qc6 ?_)
 case qc1 => simp
 case qc2 =>
  intro j u hj
  simp at hj
 case qc3 => simp
 case qc4 => simp
 case qc5 => simp
 case qc6 => simp
 intro v' w1 hown hgrow _
 go_wp2
 go_ret
 exact ⟨v', rfl, by simpa using hown, ((Below.refl _ w).alloc (Nat.le_refl _) _).grown hgrow (by simp) (by intro k hk; simp [Value.ownBlock] at hk; omega)⟩
theorem owns_rds {w : World} {B e k n : Nat} {v : Value} {cs : List Value} (h : w.ownsRow B e k v n cs) : ∃ a c, v = .slice a n c ∧ RdS w.heap.size w v n k cs ∧ ∀ d, a = some d → B ≤ d.block := by
 obtain ⟨h0, ⟨rfl, rfl⟩ | ⟨g, cap, cur, rfl, hB, hb, h1, h2, h3, h4⟩⟩ := id h
 ·exact ⟨none, 0, rfl, ⟨none, 0, rfl, Nat.le_refl _, Nat.zero_le _, h0, .inl rfl⟩, fun d hd => by cases hd⟩
 ·refine ⟨_, cap, rfl, ⟨_, cap, rfl, h1, h2, h0, .inr ⟨g, 0, rfl, Lib.lt_of_heap hb, fun j u hj => ?_⟩⟩, fun d hd => by injection hd with hd; subst hd; exact hB⟩
  have := h.cells (g := g) rfl j u hj
  rwa [addr_add] at this
theorem clone_any (L : SlLaysE0.n41 P ρ) (i0 : TypeInfo) (z : Value) (size bytes : Nat) (hi : P.info? (ρ.t 23) = some i0) (hz0 : i0.zero = some z) (hz1 : i0.size = size) (hz2 : i0.bytes = bytes) (hzs : z.cells.size = size) (hsz : 0 < size)
  (z23 : ∀ w, (Go.sizeOf (ρ.t 23)).run P w = .ok size w) {B n : Nat} {a : Option Addr} {m c : Nat} {cs : List Value} (w : World) (hr : RdS B w (.slice a m c) n size cs) (hbig : n * bytes ≤ 140737488355328) (h1 : ∀ u ∈ cs, u.oneCell' = true) :
  Calls P (ρ.f 41) #[.slice a m c] w fun e w' => ∃ a' c', e = .returned (.slice a' n c') ∧ RdS w'.heap.size w' (.slice a' n c') n size cs ∧ (∀ d, a' = some d → w.heap.size ≤ d.block) ∧ w.grownBy w' none := by
 have hgr : ∀ {w' : World}, Below w.heap.size w w' → w.grownBy w' none := fun hb => ⟨hb.os, hb.tape, hb.output, hb.size, fun k hk _ => hb.block k hk⟩
 obtain ⟨ao, c', e, hle, hcm, hl, h5⟩ := hr
 injection e with e1 e2 e3
 subst e1 e2 e3
 rcases h5 with h5 | ⟨g, o, e, hg, hrow⟩
 ·subst h5
  have hcs : cs = [] := List.eq_nil_of_length_eq_zero (by simpa using hl)
  subst hcs
  cases a with
  | none =>
   refine (AnyE.slices_Clone_nil L 0 c w).mono ?_
   rintro e w' ⟨rfl, rfl⟩
   exact ⟨none, 0, rfl, ⟨none, 0, rfl, Nat.le_refl _, Nat.zero_le _, by simp, .inl rfl⟩, (fun d hd => by cases hd), World.grownBy.refl _ _⟩
  | some b =>
   refine (clone_empty L i0 z size bytes hi hz0 hz1 hz2 hzs hsz z23 b c w).mono ?_
   rintro e w' ⟨v', rfl, ho, hb⟩
   obtain ⟨a', c', rfl, k1, k2⟩ := owns_rds ho
   exact ⟨a', c', rfl, k1, k2, hgr hb⟩
 ·subst e
  refine (AnyE.slices_Clone L i0 z size bytes hi hz0 hz1 hz2 hzs hsz z23 g o m c cs w hl (Nat.le_trans hle hcm) hbig (fun j u hj => hrow j u hj) h1).mono ?_
  rintro e w' ⟨v', rfl, ho, _, hb⟩
  obtain ⟨a', c', rfl, k1, k2⟩ := owns_rds ho
  exact ⟨a', c', rfl, k1, k2, hgr hb⟩
end
def cloneSRen : Go.Shelf.Ren := ⟨fun | 41 => 113 | n => n, fun | 4 => 4 | 3 => 3 | 22 => 26 | 23 => 51 | n => n, fun | n => n⟩
theorem cloneSLays : SlLaysE0.n41 Tryz.prog cloneSRen := {
 mixed := by kernel_rfl
 f41 := ⟨Tryz.f113.name, by decide +kernel, Tryz.func113.trans (congrArg some (by kernel_rfl))⟩
 t4 := Tryz.underlying4
 a4 := Tryz.isAgg4
 z4 := Tryz.sizeOf4
 v4 := Tryz.zeroValue4
 t22 := Tryz.underlying26
 a22 := Tryz.isAgg26
 z22 := Tryz.sizeOf26
 v22 := Tryz.zeroValue26 }
noncomputable def sealI : TypeInfo := (Tryz.prog.info? 51).get (by kernel_rfl)
theorem sealCells_one (ds : List SealD) : ∀ u ∈ sealCells ds, u.oneCell' = true := by
 intro u hu
 obtain ⟨d, _, hd⟩ := List.mem_flatMap.1 hu
 exact SealD_one d u hd
theorem cloneSeals {B n : Nat} {a : Option Addr} {m c : Nat} {ds : List SealD} (w : World) (hr : RdS B w (.slice a m c) n 3 (sealCells ds)) (hn : n ≤ 1000) :
  Calls Tryz.prog 113 #[.slice a m c] w fun e w' => ∃ a' c', e = .returned (.slice a' n c') ∧ RdS w'.heap.size w' (.slice a' n c') n 3 (sealCells ds) ∧ (∀ d, a' = some d → w.heap.size ≤ d.block) ∧ w.grownBy w' none :=
 clone_any cloneSLays sealI (.agg ZSeal.toArray) 3 24 (by kernel_rfl) (by kernel_rfl) (by kernel_rfl) (by kernel_rfl) rfl (by decide) Tryz.sizeOf51 w hr (by omega) (sealCells_one ds)
theorem cloneVals {B n : Nat} {a : Option Addr} {m c : Nat} {ds : List ValD} (w : World) (hr : RdS B w (.slice a m c) n 2 (setCells ds)) (hn : n ≤ 1000) :
  Calls Tryz.prog 114 #[.slice a m c] w fun e w' => ∃ a' c', e = .returned (.slice a' n c') ∧ RdS w'.heap.size w' (.slice a' n c') n 2 (setCells ds) ∧ (∀ d, a' = some d → w.heap.size ≤ d.block) ∧ w.grownBy w' none :=
 clone_any cloneLays valI (.agg #[.int .u64 0, .int .i64 0]) 2 16 (by kernel_rfl) (by kernel_rfl) (by kernel_rfl) (by kernel_rfl) rfl (by decide) Tryz.sizeOf115 w hr (by omega) (setCells_one ds)
def LtR.lists (x : LtR) (a1 : Option Addr) (n1 c1 : Nat) (a2 : Option Addr) (n2 c2 : Nat) (a3 : Option Addr) (n3 c3 : Nat) : LtR := { x with sa := a1, sn := n1, sc := c1, ta := a2, tn := n2, tc := c2, na := a3, nn := n3, nc := c3 }
theorem LtR.put_lists {x : LtR} (hx : x.wf) (a1 : Option Addr) (n1 c1 : Nat) (a2 : Option Addr) (n2 c2 : Nat) (a3 : Option Addr) (n3 c3 : Nat) :
  ((x.cells.set 197 (.slice a1 n1 c1)).set 198 (.slice a2 n2 c2)).set 199 (.slice a3 n3 c3) = (x.lists a1 n1 c1 a2 n2 c2 a3 n3 c3).cells := by
 have h1 := x.header.cells_length hx.header
 have h2 := x.mid_length hx
 unfold LtR.cells LtR.lists
 dsimp only
 have key : ∀ (p q : List Value) (v : Value) (k n : Nat), p.length = n → n ≤ k → (p ++ q).set k v = p ++ q.set (k - n) v := fun p q v k n hp hk => by
  rw [List.set_append_right _ _ (by omega), hp]
 rw [key _ _ _ 197 163 h1 (by omega), key _ _ _ 34 34 h2 (by omega), key _ _ _ 198 163 h1 (by omega), key _ _ _ 35 34 h2 (by omega), key _ _ _ 199 163 h1 (by omega), key _ _ _ 36 34 h2 (by omega)]
 rfl
set_option maxHeartbeats 4000000 in
theorem copied_ok (x : LtR) (l : LightD) (w0 : World) (hl : l.fit) (ho : x.of w0.heap.size w0 l) :
  Calls Tryz.prog 73 #[.agg x.cells.toArray] w0 fun e w' => ∃ y : LtR, e = .returned (.agg y.cells.toArray) ∧ y.of w'.heap.size w' l ∧ y.inn (fun b => w0.heap.size ≤ b ∧ b < w'.heap.size) ∧ w0.grownBy w' none := by
 have O := OwF.start (fun _ => False) w0
 have HX := Lib.hid (ho.wf hl.wf)
 have CS := Lib.hid (fun w (g : w0.grownBy w none) => cloneSeals w (ho.grown g).seals (by have := hl.seals; omega))
 have CT := Lib.hid (fun w (g : w0.grownBy w none) => cloneVals w (ho.grown g).set (by have := hl.set; omega))
 have CN := Lib.hid (fun w (g : w0.grownBy w none) => cloneVals w (ho.grown g).next (by have := hl.next; omega))
 obtain ⟨n1, hn1⟩ : ∃ n, l.commit.seals.length = n := ⟨_, rfl⟩
 obtain ⟨n2, hn2⟩ : ∃ n, l.set.length = n := ⟨_, rfl⟩
 obtain ⟨n3, hn3⟩ : ∃ n, l.next.length = n := ⟨_, rfl⟩
 have HO := Lib.hid ho; have HN := Lib.hid (show l.commit.seals.length = n1 ∧ l.set.length = n2 ∧ l.next.length = n3 from ⟨hn1, hn2, hn3⟩)
 rw [hn1] at CS; rw [hn2] at CT; rw [hn3] at CN
 clear hn1 hn2 hn3 ho hl
 go_enter Tryz.func73, Tryz.ntmps73
 go_upto_region 1 with (first | ((with_reducible refine @wpList_at _ _ _ _ _ _ _ (.box 31 (.tmp 0)) rfl ?_); refine @wpList_of_box _ _ _ _ _ _ _ _ _ _ 31 (.tmp 0) rfl x.cells rfl O rfl ?_; clear O; intro bi w O) | ((with_reducible refine @wpList_at _ _ _ _ _ _ _ (.alloc 31) rfl ?_); refine @wpList_of_alloc _ _ _ _ _ _ _ _ _ _ 31 rfl ZLt0 ZLt0_info O rfl ?_; clear O; intro bo w O))
 replace O := O.drew
 obtain ⟨S, hS⟩ : ∃ s, w.drew.heap.size = s := ⟨_, rfl⟩
 have hbi := (O.at_ 1 rfl).lt; have hbo := (O.at_ 0 rfl).lt
 rw [hS] at hbi hbo
 have HSZ := Lib.hid O.tch.size
 refine wp_region_J (rdf [(2, bi, 197, [(.slice x.sa x.sn x.sc)]), (5, bi, 198, [(.slice x.ta x.tn x.tc)]), (8, bi, 199, [(.slice x.na x.nn x.nc)])]) [3, 6, 9, 12, 14, 16] (by kernel_rfl) (RdA.cons (O.cellr (n := 1) rfl (x.get_seals HX.out)) (RdA.cons (O.cellr (n := 1) rfl (x.get_set HX.out)) (RdA.cons (O.cellr (n := 1) rfl (x.get_next HX.out)) RdA.nil))) (fun hH => ?_)
 refine jp 0 ((.pointer (some ⟨bi, 163, none⟩))) (Still.all hH) ?_
 simp only [Act.put, jq1, jq3, jq4, jq5, jq6]
 refine jp 1 ((.pointer (some ⟨bi, 197, none⟩))) (Still.all hH) ?_
 simp only [Act.put, jq1, jq2, jq3, jq4, jq5, jq6]
 refine jr 0 2 ((.slice x.sa x.sn x.sc)) rfl rfl (yields_cell (by rfl) 26 _ rfl bi 197 rfl (.slice x.sa x.sn x.sc) _ (fun W h => h) Tryz.underlying26 rfl) (Still.all hH) ?_
 simp only [Act.put, jq1, jq2, jq3, jq4, jq5, jq6]
 refine jp 4 ((.pointer (some ⟨bi, 198, none⟩))) (Still.all hH) ?_
 simp only [Act.put, jq1, jq2, jq3, jq4, jq5, jq6]
 refine jr 1 5 ((.slice x.ta x.tn x.tc)) rfl rfl (yields_cell (by rfl) 29 _ rfl bi 198 rfl (.slice x.ta x.tn x.tc) _ (fun W h => h) Tryz.underlying29 rfl) (Still.all hH) ?_
 simp only [Act.put, jq1, jq2, jq3, jq4, jq5, jq6]
 refine jp 7 ((.pointer (some ⟨bi, 199, none⟩))) (Still.all hH) ?_
 simp only [Act.put, jq1, jq2, jq3, jq4, jq5, jq6]
 refine jr 2 8 ((.slice x.na x.nn x.nc)) rfl rfl (yields_cell (by rfl) 29 _ rfl bi 199 rfl (.slice x.na x.nn x.nc) _ (fun W h => h) Tryz.underlying29 rfl) (Still.all hH) ?_
 simp only [Act.put, jq1, jq2, jq3, jq4, jq5, jq6]
 refine wpAnyJ_ready (rs := [3]) (by kernel_rfl) (by simp) ?_
 refine AllJ.keep rfl (by rfl) (by rfl) (fun K hK => ?_) (AllJ.nil)
 refine wp_call 113 _ _ (by rfl) (enters Tryz.func113 (by kernel_rfl) rfl) (by rfl) (CS.out _ (O.tch.grown (fun _ h => h.elim))) ?_
 rintro e u ⟨a1, c1, rfl, r1, d1, g1⟩
 refine ⟨_, rfl, ?_⟩
 replace O := O.call g1
 simp only [Act.put, jq1, jq2, jq3, jq4, jq5, jq6]
 refine hK.out _ _ (RdA.grown hH g1) ?_
 replace hH := RdA.grown hH g1
 clear hK K
 refine jp 10 ((.pointer (some ⟨bi, 163, none⟩))) (Still.all hH) ?_
 simp only [Act.put, jq1, jq2, jq3, jq4, jq5, jq6]
 refine jp 11 ((.pointer (some ⟨bi, 197, none⟩))) (Still.all hH) ?_
 simp only [Act.put, jq1, jq2, jq3, jq4, jq5, jq6]
 refine wpAnyJ_ready (rs := [6]) (by kernel_rfl) (by simp) ?_
 refine AllJ.keep rfl (by rfl) (by rfl) (fun K hK => ?_) (AllJ.nil)
 refine wp_call 114 _ _ (by rfl) (enters Tryz.func114 (by kernel_rfl) rfl) (by rfl) (CT.out _ (O.tch.grown (fun _ h => h.elim))) ?_
 rintro e u ⟨a2, c2, rfl, r2, d2, g2⟩
 refine ⟨_, rfl, ?_⟩
 replace O := O.call g2
 simp only [Act.put, jq1, jq2, jq3, jq4, jq5, jq6]
 refine hK.out _ _ (RdA.grown hH g2) ?_
 replace hH := RdA.grown hH g2
 clear hK K
 refine wpAnyJ_ready (rs := [9]) (by kernel_rfl) (by simp) ?_
 refine AllJ.keep rfl (by rfl) (by rfl) (fun K hK => ?_) (AllJ.nil)
 refine wp_call 114 _ _ (by rfl) (enters Tryz.func114 (by kernel_rfl) rfl) (by rfl) (CN.out _ (O.tch.grown (fun _ h => h.elim))) ?_
 rintro e u ⟨a3, c3, rfl, r3, d3, g3⟩
 refine ⟨_, rfl, ?_⟩
 replace O := O.call g3
 have G0 := Lib.hid O.tch
 replace O := O.again (S := S) (by simp only [List.mem_cons, List.not_mem_nil, or_false]; rintro e (rfl | rfl) <;> first | exact hbo | exact hbi)
 simp only [Act.put, jq1, jq2, jq3, jq4, jq5, jq6]
 refine hK.out _ _ (RdA.grown hH g3) ?_
 replace hH := RdA.grown hH g3
 clear hK K
 refine wpAnyJ_ready (rs := [12]) (by kernel_rfl) (by simp) ?_
 refine AllJ.turn rfl (by rfl) (by rfl) (fun K hK => ?_) (AllJ.nil)
 refine wp_of_store_cell 26 _ _ rfl O 1 bi 197 rfl (.slice a1 n1 c1) rfl (by kernel_rfl) _ _ rfl (by rw [x.cells_length HX.out]; decide) rfl ?_
 clear O
 intro w O
 simp only [List.set_cons_zero, List.set_cons_succ] at O
 simp only [Act.put, jq1, jq2, jq3]
 refine hK.out _ _ (waits_all (by kernel_rfl)) ?_
 clear hK K hH
 refine jp 13 ((.pointer (some ⟨bi, 198, none⟩))) (Still.none (by kernel_rfl)) ?_
 simp only [Act.put, jq1, jq2, jq3]
 refine wpAnyJ_ready (rs := [14]) (by kernel_rfl) (by simp) ?_
 refine AllJ.turn rfl (by rfl) (by rfl) (fun K hK => ?_) (AllJ.nil)
 refine wp_of_store_cell 29 _ _ rfl O 1 bi 198 rfl (.slice a2 n2 c2) rfl (by kernel_rfl) _ _ rfl (by simp only [List.length_set]; rw [x.cells_length HX.out]; decide) rfl ?_
 clear O
 intro w O
 simp only [List.set_cons_zero, List.set_cons_succ] at O
 simp only [Act.put, jq1, jq2, jq3, jq4, jq5, jq6]
 refine hK.out _ _ (waits_all (by kernel_rfl)) ?_
 clear hK K
 refine jp 15 ((.pointer (some ⟨bi, 199, none⟩))) (Still.none (by kernel_rfl)) ?_
 simp only [Act.put, jq1, jq2, jq3, jq4, jq5, jq6]
 refine wpAnyJ_ready (rs := [16]) (by kernel_rfl) (by simp) ?_
 refine AllJ.turn rfl (by rfl) (by rfl) (fun K hK => ?_) (AllJ.nil)
 refine wp_of_store_cell 29 _ _ rfl O 1 bi 199 rfl (.slice a3 n3 c3) rfl (by kernel_rfl) _ _ rfl (by simp only [List.length_set]; rw [x.cells_length HX.out]; decide) rfl ?_
 clear O
 intro w O
 simp only [List.set_cons_zero, List.set_cons_succ] at O
 simp only [Act.put, jq1, jq2, jq3]
 refine hK.out _ _ (waits_all (by kernel_rfl)) ?_
 clear hK K
 refine wpAnyJ_done (by kernel_rfl) ?_ _
 rw [LtR.put_lists HX.out] at O
 have HY := Lib.hid (show LtR.wf (x.lists a1 n1 c1 a2 n2 c2 a3 n3 c3) from ⟨HX.out.header, HX.out.block, (rds_n r1).2.1, (rds_n r2).2.1, (rds_n r3).2.1⟩)
 go_wp2_with (first | ((with_reducible refine @wpList_at _ _ _ _ _ _ _ (.load 31 (.tmp 1)) rfl ?_); refine @wpList_of_whole _ _ _ _ _ _ _ _ _ _ 31 (.tmp 1) rfl O 1 bi rfl (x.lists a1 n1 c1 a2 n2 c2 a3 n3 c3).cells _ rfl _ Tryz.underlying31 rfl (sizeLt _ HY.out) rfl ?_) | ((with_reducible refine @wpList_at _ _ _ _ _ _ _ (.store 31 (.tmp 2) (.tmp 17)) rfl ?_); refine @wpList_of_store _ _ _ _ _ _ _ _ _ _ 31 (.tmp 2) (.tmp 17) rfl O 0 bo rfl (x.lists a1 n1 c1 a2 n2 c2 a3 n3 c3).cells ZLt0 _ rfl rfl (LtR.cells_length _ HY.out) (LtR_one _) (sizeLt _ HY.out) rfl ?_; clear O; intro w O; simp only [List.set_cons_zero] at O))
 refine bodyPost_ret (results_cell_one rfl _ _ ⟨bo, 0, none⟩ _ rfl (run_loadVar_part _ _ _ 31 _ _ (O.row_of (g := bo) (T := 31) (by simp)) Tryz.underlying31 rfl (sizeLt _ HY.out))) rfl ?_
 have t := O.tch
 have z1 := g1.size; have z2 := g2.size; have z3 := g3.size; have z4 := t.size
 rw [hS] at d1
 have e2 : ∀ d, a2 = some d → S ≤ d.block := fun d h => by have := d2 d h; omega
 have e3 : ∀ d, a3 = some d → S ≤ d.block := fun d h => by have := d3 d h; omega
 have s1 := ((r1.grown g2).grown g3).tch t (fun a c _ e => by injection e with e _ _; have := d1 a e; omega)
 have s2 := (r2.grown g3).tch t (fun a c _ e => by injection e with e _ _; have := e2 a e; omega)
 have s3 := r3.tch t (fun a c _ e => by injection e with e _ _; have := e3 a e; omega)
 have q1 := rds_in s1; have q2 := rds_in s2; have q3 := rds_in s3
 have zs : w0.heap.size ≤ S := by rw [← hS]; exact HSZ.out
 have g := (G0.out.join t).grown (fun _ h => h.elim)
 obtain ⟨k1, k2, k3⟩ := HN.out
 have h := HO.out
 subst k1 k2 k3
 exact ⟨_, rfl, ⟨h.header, h.height, h.round, h.block, s1.mono (by omega), s2.mono (by omega), s3.mono (by omega)⟩,
  ⟨fun a hn e => ⟨by have := d1 a e; omega, by have := q1 a hn e; omega⟩, fun a hn e => ⟨by have := e2 a e; omega, by have := q2 a hn e; omega⟩, fun a hn e => ⟨by have := e3 a e; omega, by have := q3 a hn e; omega⟩⟩, g⟩
def bcCells (c : BcD) (sv pv : Value) : List Value := c.o.cells ++ [sv, pv, .int .i64 c.want, .int .i64 c.fet, .int .i64 c.frm]
structure BcD.ok (c : BcD) : Prop where
 o : c.o.wf
 some : c.store ≠ []
 want : 0 ≤ c.want ∧ c.want ≤ 1099511627776
 fet : 0 ≤ c.fet ∧ c.fet ≤ 200
 frm : -1 ≤ c.frm ∧ c.frm < c.store.length
 room : c.store.length + c.pend.length ≤ 100000
 height : ∀ l ∈ c.store, hOk l
structure BcRep (T : TypeId) (I : Nat → Prop) (w : World) (p : Nat) (sv pv : Value) (c : BcD) : Prop where
 blk : Blk w p (bcCells c sv pv) T
 store : LRow I w sv c.store
 pend : LRow I w pv c.pend
 ps : sv.ownBlock ≠ some p
 pp : pv.ownBlock ≠ some p
 sp : ∀ b, sv.ownBlock = some b → pv.ownBlock ≠ some b
 out : ∀ b, I b → b < w.heap.size ∧ b ≠ p ∧ sv.ownBlock ≠ some b ∧ pv.ownBlock ≠ some b
 ok : c.ok
def Foot (p : Nat) (sv pv : Value) (b : Nat) : Prop := b = p ∨ sv.ownBlock = some b ∨ pv.ownBlock = some b
section
variable {T : TypeId} {I J G : Nat → Prop} {w w' : World} {p : Nat} {sv pv : Value} {c c' : BcD}
theorem BcRep.tch (h : BcRep T I w p sv pv c) (t : Tch G w w') (hG : ∀ b, G b → b < w.heap.size → ¬ Foot p sv pv b ∧ ¬ I b) : BcRep T I w' p sv pv c := by
 have t' : Tch (fun b => G b ∧ b < w.heap.size) w w' := t.mono (fun b hb hl => ⟨hb, hl⟩)
 have hg : ∀ b, (G b ∧ b < w.heap.size) → ¬ Foot p sv pv b ∧ ¬ I b := fun b hb => hG b hb.1 hb.2
 exact ⟨t'.blk h.blk (fun hb => (hg _ hb).1 (.inl rfl)), h.store.tch t' (fun b hb hb2 => (hg _ hb2).1 (.inr (.inl hb))) (fun b hb hb2 => (hg _ hb2).2 hb),
  h.pend.tch t' (fun b hb hb2 => (hg _ hb2).1 (.inr (.inr hb))) (fun b hb hb2 => (hg _ hb2).2 hb), h.ps, h.pp, h.sp, fun b hb => ⟨Nat.lt_of_lt_of_le (h.out b hb).1 t.size, (h.out b hb).2⟩, h.ok⟩
theorem BcRep.grown (h : BcRep T I w p sv pv c) (g : w.grownBy w' none) : BcRep T I w' p sv pv c := h.tch (G := fun _ => False) (Tch.of_grown g) (fun _ hf => hf.elim)
theorem BcRep.lt {b : Nat} (h : BcRep T I w p sv pv c) (hb : Foot p sv pv b) : b < w.heap.size := by
 rcases hb with rfl | hb | hb
 ·exact h.blk.lt
 ·exact h.store.lt hb
 ·exact h.pend.lt hb
theorem BcRep.put {pv' : Value} (h : BcRep T I w p sv pv c) (t : Tch (fun b => b = p) w w') (hb : Blk w' p (bcCells c' sv pv') T) (hs : c'.store = c.store) (hp : (pv' = pv ∧ c'.pend = c.pend) ∨ (pv' = .slice none 0 0 ∧ c'.pend = [])) (ok : c'.ok) : BcRep T I w' p sv pv' c' := by
 have e2 : ∀ b, I b → ¬ b = p := fun b hb => (h.out b hb).2.1
 have hst : LRow I w' sv c'.store := by rw [hs]; exact h.store.tch t (fun b hb e => h.ps (e ▸ hb)) e2
 rcases hp with ⟨rfl, hp⟩ | ⟨rfl, hp⟩
 ·exact ⟨hb, hst, by rw [hp]; exact h.pend.tch t (fun b hb e => h.pp (e ▸ hb)) e2, h.ps, h.pp, h.sp, fun b hb => ⟨Nat.lt_of_lt_of_le (h.out b hb).1 t.size, (h.out b hb).2⟩, ok⟩
 ·exact ⟨hb, hst, by rw [hp]; exact LRow.nil _ _, h.ps, by simp [Value.ownBlock], fun b _ => by simp [Value.ownBlock], fun b hb => ⟨Nat.lt_of_lt_of_le (h.out b hb).1 t.size, (h.out b hb).2.1, (h.out b hb).2.2.1, by simp [Value.ownBlock]⟩, ok⟩
theorem lastB_at {l : List LightD} {m : Nat} (h : l.length = m + 1) : l[m]'(by omega) = lastB l := by
 unfold lastB
 rw [List.getLast?_eq_getElem?, List.getElem?_eq_getElem (by omega)]
 have e : l.length - 1 = m := by omega
 simp [e]
theorem BcRep.last (h : BcRep T I w p sv pv c) : ∃ m g o cp, ∃ x : LtR, c.store.length = m + 1 ∧ sv = .slice (some ⟨g, o, none⟩) (m + 1) cp ∧ m + 1 ≤ cp ∧ cp ≤ maxLen ∧ RowAt w g (o + m * 200) x.cells ∧ x.of w.heap.size w (lastB c.store) ∧ x.inn I ∧ (lastB c.store).fit := by
 have hp := List.length_pos_iff.2 h.ok.some
 obtain ⟨m, hm⟩ : ∃ m, c.store.length = m + 1 := ⟨c.store.length - 1, by omega⟩
 obtain ⟨g, o, cp, x, hv, h1, h2, _, h3, h4, h5, h6⟩ := h.store.get m (by omega)
 rw [hm] at hv h1
 rw [lastB_at hm] at h4 h6
 exact ⟨m, g, o, cp, x, hm, hv, h1, h2, h3, h4, h5, h6⟩
theorem bc_get (c : BcD) (sv pv : Value) : (bcCells c sv pv)[3]? = some sv ∧ (bcCells c sv pv)[4]? = some pv ∧ (bcCells c sv pv)[5]? = some (.int .i64 c.want) ∧ (bcCells c sv pv)[6]? = some (.int .i64 c.fet) ∧ (bcCells c sv pv)[7]? = some (.int .i64 c.frm) := ⟨rfl, rfl, rfl, rfl, rfl⟩
theorem Blk.cellr {g k : Nat} {cs : List Value} {v : Value} (h : Blk w g cs T) (hv : cs[k]? = some v) : RowAt w g k [v] := by
 have := h.row k v hv
 rw [Nat.zero_add] at this
 exact RowAt.one this
end
set_option maxHeartbeats 2000000 in
theorem last_ok {I : Nat → Prop} {w0 : World} {p m g o cp : Nat} {pv : Value} {c : BcD} {x : LtR} (h : BcRep 125 I w0 p (.slice (some ⟨g, o, none⟩) (m + 1) cp) pv c) (hle : m + 1 ≤ cp) (hcm : cp ≤ maxLen) (hrow : RowAt w0 g (o + m * 200) x.cells) (hx : x.wf) :
  Calls Tryz.prog 75 #[.pointer (some ⟨p, 0, none⟩)] w0 fun e w' => e = .returned (.agg x.cells.toArray) ∧ w0.grownBy w' none := by
 have O := OwF.start (fun _ => False) w0
 have XW := Lib.hid hx
 have F3 := Lib.hid (h.blk.cellr (bc_get _ _ _).1)
 have FR := Lib.hid hrow
 unfold maxLen at hcm
 have ew := IntWalk.i64_in (m : Int) (by omega)
 have hix : ¬ ((m : Int) + 1 ≤ (m : Int)) := by omega
 clear h hrow hx
 go_enter Tryz.func75, Tryz.ntmps75
 go_upto_region 1 with (first | ((with_reducible refine @wpList_at _ _ _ _ _ _ _ (.alloc 31) rfl ?_); refine @wpList_of_alloc _ _ _ _ _ _ _ _ _ _ 31 rfl ZLt0 ZLt0_info O rfl ?_; clear O; intro bo w O))
 replace O := O.drew
 refine wp_region_J (rdf [(3, p, 3, [(.slice (some ⟨g, o, none⟩) (m + 1) cp)]), (7, p, 3, [(.slice (some ⟨g, o, none⟩) (m + 1) cp)]), (11, g, (o + m * 200), x.cells)]) [12] (by kernel_rfl) (RdA.cons (F3.out.grown (O.tch.grown (fun _ h => h.elim)) (by simp)) (RdA.cons (F3.out.grown (O.tch.grown (fun _ h => h.elim)) (by simp)) (RdA.cons (FR.out.grown (O.tch.grown (fun _ h => h.elim)) (by simp)) RdA.nil))) (fun hH => ?_)
 refine jp 0 ((.pointer (some ⟨p, 0, none⟩))) (Still.all hH) ?_
 simp only [Act.put, jq1, jq3, jq4, jq5, jq6]
 refine jp 1 ((.pointer (some ⟨p, 0, none⟩))) (Still.all hH) ?_
 simp only [Act.put, jq1, jq2, jq3, jq4, jq5, jq6]
 refine jp 2 ((.pointer (some ⟨p, 3, none⟩))) (Still.all hH) ?_
 simp only [Act.put, jq1, jq2, jq3, jq4, jq5, jq6]
 refine jr 0 3 ((.slice (some ⟨g, o, none⟩) (m + 1) cp)) rfl rfl (yields_cell (by rfl) 70 _ rfl p 3 rfl (.slice (some ⟨g, o, none⟩) (m + 1) cp) _ (fun W h => h) Tryz.underlying70 rfl) (Still.all hH) ?_
 simp only [Act.put, jq1, jq2, jq3, jq4, jq5, jq6]
 refine jp 4 ((.pointer (some ⟨p, 0, none⟩))) (Still.all hH) ?_
 simp only [Act.put, jq1, jq2, jq3, jq4, jq5, jq6]
 refine jp 5 ((.pointer (some ⟨p, 0, none⟩))) (Still.all hH) ?_
 simp only [Act.put, jq1, jq2, jq3, jq4, jq5, jq6]
 refine jp 6 ((.pointer (some ⟨p, 3, none⟩))) (Still.all hH) ?_
 simp only [Act.put, jq1, jq2, jq3, jq4, jq5, jq6]
 refine jr 1 7 ((.slice (some ⟨g, o, none⟩) (m + 1) cp)) rfl rfl (yields_cell (by rfl) 70 _ rfl p 3 rfl (.slice (some ⟨g, o, none⟩) (m + 1) cp) _ (fun W h => h) Tryz.underlying70 rfl) (Still.all hH) ?_
 simp only [Act.put, jq1, jq2, jq3, jq4, jq5, jq6]
 refine jp 8 ((.int .i64 ((m + 1 : Nat) : Int))) (Still.all hH) ?_
 simp only [Act.put, jq1, jq2, jq3, jq4, jq5, jq6]
 refine jp 9 ((.int .i64 (m : Int))) (Still.all hH) ?_
 simp only [Act.put, jq1, jq2, jq3, jq4, jq5, jq6]
 refine jp 10 ((.pointer (some ⟨g, o + m * 200, none⟩))) (Still.all hH) ?_
 simp only [Act.put, jq1, jq2, jq3, jq4, jq5, jq6]
 refine jr 2 11 ((.agg (x.cells).toArray)) rfl rfl (yieldsIf_load_mid (by rfl) 31 _ rfl g (o + m * 200) rfl x.cells _ (fun W h => h) Tryz.underlying31 rfl (sizeLt _ XW.out)) (Still.all hH) ?_
 simp only [Act.put, jq1, jq2, jq3, jq4, jq5, jq6]
 refine wpAnyJ_ready (rs := [12]) (by kernel_rfl) (by simp) ?_
 refine AllJ.turn rfl (by rfl) (by rfl) (fun K hK => ?_) (AllJ.nil)
 refine wp_of_store 31 _ _ rfl O 0 bo rfl x.cells ZLt0 _ rfl rfl (LtR.cells_length _ XW.out) (LtR_one _) (sizeLt _ XW.out) ?_
 clear O
 intro w O
 simp only [List.set_cons_zero] at O
 simp only [Act.put, jq1]
 refine hK.out _ _ (waits_all (by kernel_rfl)) ?_
 clear hK K hH
 refine wpAnyJ_done (by kernel_rfl) ?_ _
 go_wp2_with fail
 refine bodyPost_ret (results_cell_one rfl _ _ ⟨bo, 0, none⟩ _ rfl (run_loadVar_part _ _ _ 31 _ _ (O.row_of (g := bo) (T := 31) (by simp)) Tryz.underlying31 rfl (sizeLt _ XW.out))) rfl ?_
 exact ⟨rfl, O.tch.grown (fun _ h => h.elim)⟩
set_option maxHeartbeats 2000000 in
theorem Rlast_ok {I : Nat → Prop} {w0 : World} {p m g o cp : Nat} {pv : Value} {c : BcD} {x : LtR} (h : BcRep 93 I w0 p (.slice (some ⟨g, o, none⟩) (m + 1) cp) pv c) (hle : m + 1 ≤ cp) (hcm : cp ≤ maxLen) (hrow : RowAt w0 g (o + m * 200) x.cells) (hx : x.wf) :
  Calls Tryz.prog 79 #[.pointer (some ⟨p, 0, none⟩)] w0 fun e w' => e = .returned (.agg x.cells.toArray) ∧ w0.grownBy w' none := by
 have O := OwF.start (fun _ => False) w0
 have XW := Lib.hid hx
 have F3 := Lib.hid (h.blk.cellr (bc_get _ _ _).1)
 have FR := Lib.hid hrow
 unfold maxLen at hcm
 have ew := IntWalk.i64_in (m : Int) (by omega)
 have hix : ¬ ((m : Int) + 1 ≤ (m : Int)) := by omega
 clear h hrow hx
 go_enter Tryz.func79, Tryz.ntmps79
 go_upto_region 1 with (first | ((with_reducible refine @wpList_at _ _ _ _ _ _ _ (.alloc 31) rfl ?_); refine @wpList_of_alloc _ _ _ _ _ _ _ _ _ _ 31 rfl ZLt0 ZLt0_info O rfl ?_; clear O; intro bo w O))
 replace O := O.drew
 refine wp_region_J (rdf [(3, p, 3, [(.slice (some ⟨g, o, none⟩) (m + 1) cp)]), (7, p, 3, [(.slice (some ⟨g, o, none⟩) (m + 1) cp)]), (11, g, (o + m * 200), x.cells)]) [12] (by kernel_rfl) (RdA.cons (F3.out.grown (O.tch.grown (fun _ h => h.elim)) (by simp)) (RdA.cons (F3.out.grown (O.tch.grown (fun _ h => h.elim)) (by simp)) (RdA.cons (FR.out.grown (O.tch.grown (fun _ h => h.elim)) (by simp)) RdA.nil))) (fun hH => ?_)
 refine jp 0 ((.pointer (some ⟨p, 0, none⟩))) (Still.all hH) ?_
 simp only [Act.put, jq1, jq3]
 refine jp 1 ((.pointer (some ⟨p, 0, none⟩))) (Still.all hH) ?_
 simp only [Act.put, jq1, jq2, jq3, jq4, jq5, jq6]
 refine jp 2 ((.pointer (some ⟨p, 3, none⟩))) (Still.all hH) ?_
 simp only [Act.put, jq1, jq4]
 refine jr 0 3 ((.slice (some ⟨g, o, none⟩) (m + 1) cp)) rfl rfl (yields_cell (by rfl) 70 _ rfl p 3 rfl (.slice (some ⟨g, o, none⟩) (m + 1) cp) _ (fun W h => h) Tryz.underlying70 rfl) (Still.all hH) ?_
 simp only [Act.put, jq1, jq2, jq3, jq4, jq5, jq6]
 refine jp 4 ((.pointer (some ⟨p, 0, none⟩))) (Still.all hH) ?_
 simp only [Act.put, jq1, jq2, jq3, jq4, jq5, jq6]
 refine jp 5 ((.pointer (some ⟨p, 0, none⟩))) (Still.all hH) ?_
 simp only [Act.put, jq1, jq2, jq3, jq4, jq5, jq6]
 refine jp 6 ((.pointer (some ⟨p, 3, none⟩))) (Still.all hH) ?_
 simp only [Act.put, jq1, jq2, jq3, jq4, jq5, jq6]
 refine jr 1 7 ((.slice (some ⟨g, o, none⟩) (m + 1) cp)) rfl rfl (yields_cell (by rfl) 70 _ rfl p 3 rfl (.slice (some ⟨g, o, none⟩) (m + 1) cp) _ (fun W h => h) Tryz.underlying70 rfl) (Still.all hH) ?_
 simp only [Act.put, jq1, jq2, jq3, jq4, jq5, jq6]
 refine jp 8 ((.int .i64 ((m + 1 : Nat) : Int))) (Still.all hH) ?_
 simp only [Act.put, jq1, jq2, jq3, jq4, jq5, jq6]
 refine jp 9 ((.int .i64 (m : Int))) (Still.all hH) ?_
 simp only [Act.put, jq1, jq2, jq3, jq4, jq5, jq6]
 refine jp 10 ((.pointer (some ⟨g, o + m * 200, none⟩))) (Still.all hH) ?_
 simp only [Act.put, jq1, jq2, jq3, jq4, jq5, jq6]
 refine jr 2 11 ((.agg (x.cells).toArray)) rfl rfl (yieldsIf_load_mid (by rfl) 31 _ rfl g (o + m * 200) rfl x.cells _ (fun W h => h) Tryz.underlying31 rfl (sizeLt _ XW.out)) (Still.all hH) ?_
 simp only [Act.put, jq1, jq2, jq3, jq4, jq5, jq6]
 refine wpAnyJ_ready (rs := [12]) (by kernel_rfl) (by simp) ?_
 refine AllJ.turn rfl (by rfl) (by rfl) (fun K hK => ?_) (AllJ.nil)
 refine wp_of_store 31 _ _ rfl O 0 bo rfl x.cells ZLt0 _ rfl rfl (LtR.cells_length _ XW.out) (LtR_one _) (sizeLt _ XW.out) ?_
 clear O
 intro w O
 simp only [List.set_cons_zero] at O
 simp only [Act.put, jq1, jq2, jq3]
 refine hK.out _ _ (waits_all (by kernel_rfl)) ?_
 clear hK K hH
 refine wpAnyJ_done (by kernel_rfl) ?_ _
 go_wp2_with fail
 refine bodyPost_ret (results_cell_one rfl _ _ ⟨bo, 0, none⟩ _ rfl (run_loadVar_part _ _ _ 31 _ _ (O.row_of (g := bo) (T := 31) (by simp)) Tryz.underlying31 rfl (sizeLt _ XW.out))) rfl ?_
 exact ⟨rfl, O.tch.grown (fun _ h => h.elim)⟩
theorem BcD.ok.drop {c : BcD} (h : c.ok) : c.drop.ok := ⟨h.o, h.some, ⟨by simp [BcD.drop], by simp [BcD.drop]⟩, h.fet, h.frm, by have := h.room; simp [BcD.drop]; omega, h.height⟩
set_option maxHeartbeats 2000000 in
theorem drop_ok {I : Nat → Prop} {w0 : World} {p : Nat} {sv pv : Value} {c : BcD} (h : BcRep 125 I w0 p sv pv c) :
  Calls Tryz.prog 76 #[.pointer (some ⟨p, 0, none⟩)] w0 fun e w' => e = .returned (.tuple #[]) ∧ BcRep 125 I w' p sv (.slice none 0 0) c.drop ∧ Tch (fun b => b = p) w0 w' := by
 have O := (OwF.start (fun b => b = p) w0).add h.blk rfl (by simp)
 have H := Lib.hid h
 clear h
 go_enter Tryz.func76, Tryz.ntmps76
 go_wp2_with (first | ((with_reducible refine @wpList_at _ _ _ _ _ _ _ (.store 70 (.tmp 5) (.const (.slice none 0 0))) rfl ?_); refine @wpList_of_store_cell _ _ _ _ _ _ _ _ _ _ 70 (.tmp 5) (.const (.slice none 0 0)) rfl O 0 p 4 rfl (.slice none 0 0) rfl (by kernel_rfl) _ _ rfl (by show (4 : Nat) < 8; decide) rfl rfl ?_; clear O; intro w O; simp only [List.set_cons_zero] at O) | ((with_reducible refine @wpList_at _ _ _ _ _ _ _ (.store 3 (.tmp 7) (.const (.int .i64 0))) rfl ?_); refine @wpList_of_store_cell _ _ _ _ _ _ _ _ _ _ 3 (.tmp 7) (.const (.int .i64 0)) rfl O 0 p 5 rfl (.int .i64 0) rfl (by kernel_rfl) _ _ rfl (by show (5 : Nat) < 8; decide) rfl rfl ?_; clear O; intro w O; simp only [List.set_cons_zero] at O))
 go_end0
 exact ⟨rfl, H.out.put O.tch (O.at_ 0 rfl) rfl (.inr ⟨rfl, rfl⟩) H.out.ok.drop, O.tch⟩
set_option maxHeartbeats 2000000 in
theorem Rdrop_ok {I : Nat → Prop} {w0 : World} {p : Nat} {sv pv : Value} {c : BcD} (h : BcRep 93 I w0 p sv pv c) :
  Calls Tryz.prog 80 #[.pointer (some ⟨p, 0, none⟩)] w0 fun e w' => e = .returned (.tuple #[]) ∧ BcRep 93 I w' p sv (.slice none 0 0) c.drop ∧ Tch (fun b => b = p) w0 w' := by
 have O := (OwF.start (fun b => b = p) w0).add h.blk rfl (by simp)
 have H := Lib.hid h
 clear h
 go_enter Tryz.func80, Tryz.ntmps80
 go_wp2_with (first | ((with_reducible refine @wpList_at _ _ _ _ _ _ _ (.store 70 (.tmp 4) (.const (.slice none 0 0))) rfl ?_); refine @wpList_of_store_cell _ _ _ _ _ _ _ _ _ _ 70 (.tmp 4) (.const (.slice none 0 0)) rfl O 0 p 4 rfl (.slice none 0 0) rfl (by kernel_rfl) _ _ rfl (by show (4 : Nat) < 8; decide) rfl rfl ?_; clear O; intro w O; simp only [List.set_cons_zero] at O) | ((with_reducible refine @wpList_at _ _ _ _ _ _ _ (.store 3 (.tmp 7) (.const (.int .i64 0))) rfl ?_); refine @wpList_of_store_cell _ _ _ _ _ _ _ _ _ _ 3 (.tmp 7) (.const (.int .i64 0)) rfl O 0 p 5 rfl (.int .i64 0) rfl (by kernel_rfl) _ _ rfl (by show (5 : Nat) < 8; decide) rfl rfl ?_; clear O; intro w O; simp only [List.set_cons_zero] at O))
 go_end0
 exact ⟨rfl, H.out.put O.tch (O.at_ 0 rfl) rfl (.inr ⟨rfl, rfl⟩) H.out.ok.drop, O.tch⟩
section
variable {F G : Nat → Prop} {w0 u w : World} {L : List (Nat × List Value × TypeId)} {g : Nat} {cs : List Value} {T : TypeId}
theorem OwF.join (O : OwF (fun _ => False) w0 w L) (hb : Blk w0 g cs T) (hg : F g) : OwF F w0 w ((g, cs, T) :: L) := by
 have hn : ∀ e ∈ L, w0.heap.size ≤ e.1 := fun e he => (O.ok e he).resolve_right id
 refine ⟨O.tch.mono (fun _ h _ => h.elim), fun e he => ?_, fun e he => ?_, List.Pairwise.cons (fun e he hq => ?_) O.nodup⟩
 ·rcases List.mem_cons.1 he with rfl | he
  ·exact O.tch.blk hb id
  ·exact O.blk e he
 ·rcases List.mem_cons.1 he with rfl | he
  ·exact .inr hg
  ·exact .inl (hn e he)
 ·have h1 := hn e he; have h2 := hb.lt
  dsimp only at hq
  omega
end
section
variable {I : Nat → Prop} {w w' : World} {v v' : Value} {ls : List LightD} {l : LightD}
theorem LRow.snoc {xs : List LtR} {x : LtR} (a2 : xs.length = ls.length) (a3 : ∀ (i : Nat) (x : LtR) (l : LightD), xs[i]? = some x → ls[i]? = some l → x.of w'.heap.size w' l ∧ x.inn I ∧ l.fit)
  (h : SRow w' 31 200 v' (xs.length + 1) (ltsCells xs ++ x.cells)) (hx : x.of w'.heap.size w' l) (hi : x.inn I) (hf : l.fit) : LRow I w' v' (ls ++ [l]) := by
 refine ⟨xs ++ [x], ?_, by simp [a2], fun i y k hy hk => ?_⟩
 ·have e : ltsCells (xs ++ [x]) = ltsCells xs ++ x.cells := by simp [ltsCells]
  rw [e, List.length_append]; exact h
 ·by_cases hlt : i < xs.length
  ·rw [List.getElem?_append_left hlt] at hy
   rw [List.getElem?_append_left (by omega)] at hk
   exact a3 i y k hy hk
  ·rw [List.getElem?_append_right (by omega)] at hy
   rw [List.getElem?_append_right (by omega)] at hk
   rw [← a2] at hk
   cases hq : i - xs.length with
   | zero =>
    rw [hq] at hy hk
    simp only [List.getElem?_cons_zero, Option.some.injEq] at hy hk
    subst hy hk
    exact ⟨hx, hi, hf⟩
   | succ n => rw [hq] at hy; simp at hy
theorem zlt_size : (Value.agg ZLt0.toArray).cells.size = 200 := by rw [show (Value.agg ZLt0.toArray).cells = ZLt0.toArray from rfl, List.size_toArray]; decide +kernel
theorem light_inf : (Tryz.prog.info? 31).map (fun i => (i.zero, i.size, i.bytes)) = some (some (.agg ZLt0.toArray), 200, 312) := by kernel_rfl
theorem light_inf2 : (Tryz.prog.info? 31).map (fun i => (i.zero, i.size)) = some (some (.agg ZLt0.toArray), 200) := by kernel_rfl
theorem wp_of_appL {o : Oper} {a : Act} {K : Act → World → Prop} {Q : Exit → Act → World → Prop} (s y : Operand) (ho : o.op = .call { callee := .builtin .append, args := #[s, y], argTypes := #[70, 70] })
  (h : LRow I w v ls) {x : LtR} (hx : x.of w.heap.size w l) (hi : x.inn I) (hf : l.fit) (dis : ∀ b, I b → v.ownBlock ≠ some b) (hn : ls.length ≤ 1000000) (hs : a.eval s = v) (g : Nat) (hy : a.eval y = .slice (some ⟨g, 0, none⟩) 1 1) (hr : RowAt w g 0 x.cells)
  (k : ∀ a' n' c' w', LRow I w' (.slice a' n' c') (ls ++ [l]) → Tch (fun b => v.ownBlock = some b) w w' → ((Value.slice a' n' c').ownBlock = v.ownBlock ∨ ∃ b, (Value.slice a' n' c').ownBlock = some b ∧ w.heap.size ≤ b) → K (a.put o.dst (.slice a' n' c')) w') : o.wp Tryz.prog a w K Q := by
 obtain ⟨xs, a1, a2, a3⟩ := h
 have hxw := hx.wf hf.wf
 refine wp_of_app s y 70 ho 31 (.agg ZLt0.toArray) 200 312 Tryz.underlying70 light_inf zlt_size v xs.length (ltsCells xs) hs a1 g hy x.cells hr (x.cells_length hxw) (LtR_one _) (by omega) (by decide) ?_
 intro v' w' h1 h2 h3
 obtain ⟨a', c', rfl, _, _⟩ := h1.shape
 refine k a' _ c' w' (LRow.snoc a2 (fun i y m hy hm => ?_) h1 ((hx.tch h2 hi (fun b hb e => dis b hb e)).mono h2.size) hi hf) h2 h3
 obtain ⟨b1, b2, b3⟩ := a3 i y m hy hm
 exact ⟨(b1.tch h2 b2 (fun b hb e => dis b hb e)).mono h2.size, b2, b3⟩
theorem LRow.lastx {k : Nat} (h : LRow I w v ls) (hk : ls.length = k + 1) : ∃ g o cp, ∃ x : LtR, v = .slice (some ⟨g, o, none⟩) (k + 1) cp ∧ k + 1 ≤ cp ∧ cp ≤ maxLen ∧ RowAt w g (o + k * 200) x.cells ∧ x.of w.heap.size w (lastB ls) ∧ x.inn I ∧ (lastB ls).fit := by
 obtain ⟨g, o, cp, x, hv, h1, h2, _, h3, h4, h5, h6⟩ := h.get k (by omega)
 rw [hk] at hv h1
 rw [lastB_at hk] at h4 h6
 exact ⟨g, o, cp, x, hv, h1, h2, h3, h4, h5, h6⟩
end
section
variable {T : TypeId} {I : Nat → Prop} {w u w' : World} {p : Nat} {sv pv sv' : Value} {c c' : BcD} {l : LightD}
theorem BcRep.push {g o k cp : Nat} (h : BcRep T I w p sv (.slice (some ⟨g, o, none⟩) (k + 1) cp) c) (t1 : Tch (fun b => sv.ownBlock = some b) w u) (t2 : Tch (fun b => b = p) u w') (hL : LRow I u sv' (c.store ++ [l]))
  (ho : sv'.ownBlock = sv.ownBlock ∨ ∃ b, sv'.ownBlock = some b ∧ w.heap.size ≤ b) (hk : c.pend.length = k + 1) (hb : Blk w' p (bcCells c' sv' (.slice (some ⟨g, o, none⟩) k cp)) T) (hs : c'.store = c.store ++ [l]) (hp : c'.pend = c.pend.dropLast) (ok : c'.ok) :
  BcRep T I w' p sv' (.slice (some ⟨g, o, none⟩) k cp) c' := by
 have hI : ∀ b, I b → ¬ b = p := fun b hb => (h.out b hb).2.1
 have ownp : ∀ b, sv'.ownBlock = some b → b ≠ p ∧ (Value.slice (some ⟨g, o, none⟩) (k + 1) cp).ownBlock ≠ some b ∧ ¬ I b := fun b hb => by
  rcases ho with e | ⟨d, e, hd⟩
  ·rw [e] at hb
   exact ⟨fun e2 => h.ps (e2 ▸ hb), h.sp b hb, fun hi => (h.out b hi).2.2.1 hb⟩
  ·rw [hb] at e
   injection e with e
   subst e
   refine ⟨fun e2 => ?_, fun e2 => ?_, fun hi => ?_⟩
   ·have := h.blk.lt; omega
   ·have := h.pend.lt e2; omega
   ·have := (h.out b hi).1; omega
 have hpv : (Value.slice (some ⟨g, o, none⟩) k cp).ownBlock = (Value.slice (some ⟨g, o, none⟩) (k + 1) cp).ownBlock := rfl
 refine ⟨hb, ?_, ?_, fun e => (ownp p e).1 rfl, h.pp, fun b hb => (ownp b hb).2.1, fun b hb => ⟨Nat.lt_of_lt_of_le (h.out b hb).1 (Nat.le_trans t1.size t2.size), (h.out b hb).2.1, fun e => (ownp b e).2.2 hb, (h.out b hb).2.2.2⟩, ok⟩
 ·rw [hs]
  exact hL.tch t2 (fun b hb e => (ownp b hb).1 e) hI
 ·rw [hp, List.dropLast_eq_take, hk, Nat.add_sub_cancel]
  have h1 := (h.pend.tch t1 (fun b hb e => h.sp b e hb) (fun b hb e => (h.out b hb).2.2.1 e)).tch t2 (fun b hb e => h.pp (e ▸ hb)) hI
  rw [← hk] at h1
  exact h1.cut (by omega)
def BcPost (T : TypeId) (I : Nat → Prop) (w : World) (p : Nat) (sv pv : Value) (c : BcD) (w' : World) : Prop :=
 ∃ sv' pv', BcRep T I w' p sv' pv' c ∧ Tch (Foot p sv pv) w w' ∧ ∀ b, Foot p sv' pv' b → Foot p sv pv b ∨ w.heap.size ≤ b
theorem row_pre {cs ds : List Value} {g : Nat} (h : RowAt w g 0 (cs ++ ds)) : RowAt w g 0 cs := fun j v hj => by
 have hlt := (List.getElem?_eq_some_iff.1 hj).1
 exact h j v (by rw [List.getElem?_append_left hlt]; exact hj)
theorem BcRep.opt (h : BcRep T I w p sv pv c) : RowAt w p 0 c.o.cells := row_pre h.blk.row
end
theorem climb_next {now : Nat} {c : BcD} {k : Nat} (hk : c.pend.length = k + 1) : BcD.climb now c.pend.length c =
  if vstepL (lastB c.store) (lastB c.pend) now c.o = 0 then BcD.climb now k { c with store := c.store ++ [lastB c.pend], pend := c.pend.dropLast }
  else if vstepL (lastB c.store) (lastB c.pend) now c.o = 159 then ({ c with want := (lastB c.store).header.height + ((lastB c.pend).header.height - (lastB c.store).header.height) / 2 }, 0)
  else (c.drop, vstepL (lastB c.store) (lastB c.pend) now c.o) := by rw [hk]; rfl
theorem BcD.ok.push {c : BcD} (h : c.ok) {l : LightD} {now : Nat} (hp : c.pend ≠ []) (hv : vstepL (lastB c.store) l now c.o = 0) : ({ c with store := c.store ++ [l], pend := c.pend.dropLast } : BcD).ok := by
 have hl := List.length_pos_iff.2 hp
 refine ⟨h.o, by simp, h.want, h.fet, ?_, ?_, ?_⟩
 ·have := h.frm; dsimp only; rw [List.length_append]; simp; omega
 ·have := h.room; simp only [List.length_append, List.length_dropLast, List.length_cons, List.length_nil]; omega
 ·intro x hx
  rcases List.mem_append.1 hx with hx | hx
  ·exact h.height x hx
  ·have : x = l := by simpa using hx
   rw [this]; exact (step_0 hv).2
theorem BcD.ok.wants {c : BcD} (h : c.ok) {l : LightD} {now : Nat} (hv : vstepL (lastB c.store) l now c.o = 159) :
  (1 ≤ (lastB c.store).header.height ∧ (lastB c.store).header.height < l.header.height ∧ l.header.height ≤ 1099511627776) ∧ ({ c with want := (lastB c.store).header.height + (l.header.height - (lastB c.store).header.height) / 2 } : BcD).ok := by
 obtain ⟨h1, h2, h3⟩ := step_159 hv
 have h4 := h.height _ (lastB_mem h.some)
 have h5 := sound_hOk h3
 unfold hOk at h4 h5
 unfold hL at h1
 exact ⟨by omega, ⟨h.o, h.some, by dsimp only; omega, h.fet, h.frm, h.room, h.height⟩⟩
set_option maxHeartbeats 8000000 in
theorem climb_ok2 {I : Nat → Prop} {w0 : World} {p : Nat} {sv pv : Value} {c : BcD} (h : BcRep 125 I w0 p sv pv c) (now : Nat) (hnow : now < 18446744073709551616) (hR : RowAt w0 1 0 (wCells rootsL)) (hI : I 1) :
  Calls Tryz.prog 77 #[.pointer (some ⟨p, 0, none⟩), .float .f64 now] w0 fun e w' => e = .returned (.int .i64 (BcD.climb now c.pend.length c).2) ∧ BcPost 125 I w0 p sv pv (BcD.climb now c.pend.length c).1 w' := by
 obtain ⟨R, hRR⟩ : ∃ r, BcD.climb now c.pend.length c = r := ⟨_, rfl⟩
 rw [hRR]
 have H0 := Lib.hid h; have HNW := Lib.hid hnow; have HRO := Lib.hid hR; have HIR := Lib.hid hI; have HRR := Lib.hid hRR
 have c4 : RowAt w0 p 4 [pv] := h.blk.cellr (bc_get _ _ _).2.1
 have c4 := c4.at_one
 obtain ⟨pa, pc, hpv, _⟩ := h.pend.shape
 rw [hpv] at c4
 obtain ⟨n0, hn0⟩ : ∃ n, c.pend.length = n := ⟨_, rfl⟩
 rw [hn0] at c4
 have HN0 := Lib.hid hn0
 clear h hnow hR hI hRR hpv hn0
 go_enter Tryz.func77, Tryz.ntmps77
 go_wp2
 go_loopw [5] (fun n wr => ∃ (c1 : BcD) (sv1 pv1 : Value) (k : Nat), n = .int .i64 k ∧ c1.pend.length = k ∧ BcRep 125 I wr p sv1 pv1 c1 ∧ Tch (Foot p sv pv) w0 wr ∧ (∀ b, Foot p sv1 pv1 b → Foot p sv pv b ∨ w0.heap.size ≤ b) ∧ BcD.climb now c1.pend.length c1 = R) (fun n _ => (intOf n).toNat)
 case atStart => exact ⟨c, sv, pv, n0, rfl, HN0.out, H0.out, Tch.refl _ _, fun b hb => .inl hb, HRR.out⟩
 case round =>
  clear c4
  obtain ⟨c1, sv1, pv1, k0, rfl, hk0, h1, t1, f1, he⟩ := hrel
  have T1 := Lib.hid t1; have F1 := Lib.hid f1
  clear t1 f1
  rcases Nat.eq_zero_or_pos k0 with h0 | h0
  ·subst h0
   have hR2 : R = ({ c1 with want := 0 }, 0) := by rw [← he, hk0]; rfl
   have O := (OwF.start (fun b => b = p) wr).add h1.blk rfl (by simp)
   have H1 := Lib.hid h1; have HR2 := Lib.hid hR2
   clear h1 he hk0 hR2
   go_wp2_with (first | ((with_reducible refine @wpList_at _ _ _ _ _ _ _ (.store 3 (.tmp 87) (.const (.int .i64 0))) rfl ?_); refine @wpList_of_store_cell _ _ _ _ _ _ _ _ _ _ 3 (.tmp 87) (.const (.int .i64 0)) rfl O 0 p 5 rfl (.int .i64 0) rfl (by kernel_rfl) _ _ rfl (by show (5 : Nat) < 8; decide) rfl rfl ?_; clear O; intro w O; simp only [List.set_cons_zero] at O))
   go_ret
   rw [HR2.out]
   refine ⟨rfl, sv1, pv1, H1.out.put O.tch (O.at_ 0 rfl) rfl (.inl ⟨rfl, rfl⟩) ?_, T1.out.trans O.tch (fun b hb _ => .inl hb), F1.out⟩
   have k := H1.out.ok
   exact ⟨k.o, k.some, ⟨Int.le_refl _, by dsimp only; decide⟩, k.fet, k.frm, k.room, k.height⟩
  ·obtain ⟨k, rfl⟩ : ∃ k, k0 = k + 1 := ⟨k0 - 1, by omega⟩
   clear h0
   rw [climb_next hk0] at he
   obtain ⟨m, gs, os, cs, y, hm, rfl, hle, hcm, hrow, hof, hin, hfit⟩ := h1.last
   obtain ⟨g, o, cp, x, rfl, hle2, hcm2, hrow2, hof2, hin2, hfit2⟩ := h1.pend.lastx hk0
   have YW := Lib.hid (hof.wf hfit.wf); have XW := Lib.hid (hof2.wf hfit2.wf)
   have O := OwF.start (fun _ => False) wr
   have CL := Lib.hid (fun w (gg : wr.grownBy w none) => last_ok (h1.grown gg) hle hcm (hrow.grown gg (by simp)) (hof.wf hfit.wf))
   have CP := Lib.hid (fun w (gg : wr.grownBy w none) => Step_ok y x (lastB c1.store) (lastB c1.pend) now c1.o w hfit.wf hfit2.wf (hof.up gg (Nat.le_refl _)) (hof2.up gg (Nat.le_refl _)) HNW.out h1.ok.o (by have := hfit2.seals; omega) (by have := hfit.chain; unfold maxLen; omega)
    (((T1.out.row HRO.out (fun hf => by
     rcases H0.out.out _ HIR.out with ⟨_, q1, q2, q3⟩
     rcases hf with e | e | e
     ·exact q1 e
     ·exact q2 e
     ·exact q3 e)).grown gg (by simp))))
   have F3 := Lib.hid (h1.blk.cellr (bc_get _ _ _).1); have F4 := Lib.hid (h1.blk.cellr (bc_get _ _ _).2.1); have FO := Lib.hid h1.opt
   have FY := Lib.hid hrow; have FX := Lib.hid hrow2
   have H1 := Lib.hid h1; have HY := Lib.hid (show y.of wr.heap.size wr (lastB c1.store) ∧ y.inn I ∧ (lastB c1.store).fit from ⟨hof, hin, hfit⟩); have HX := Lib.hid (show x.of wr.heap.size wr (lastB c1.pend) ∧ x.inn I ∧ (lastB c1.pend).fit from ⟨hof2, hin2, hfit2⟩)
   have HM := Lib.hid hm; have HK := Lib.hid hk0
   unfold maxLen at hcm hcm2
   have hst0 : vstepL (lastB c1.store) (lastB c1.pend) now c1.o = 0 → ({ c1 with store := c1.store ++ [lastB c1.pend], pend := c1.pend.dropLast } : BcD).ok := fun e => h1.ok.push (fun e2 => by rw [e2] at hk0; simp at hk0) e
   have hst1 := fun (e : vstepL (lastB c1.store) (lastB c1.pend) now c1.o = 159) => h1.ok.wants e
   have ew := IntWalk.i64_in (k : Int) (by omega)
   have hix : ¬ ((k : Int) + 1 ≤ (k : Int)) := by omega
   obtain ⟨V, hV⟩ : ∃ v, vstepL (lastB c1.store) (lastB c1.pend) now c1.o = v := ⟨_, rfl⟩
   rw [hV] at CP he hst0 hst1
   have HE := Lib.hid he; have HS0 := Lib.hid hst0; have HS1 := Lib.hid hst1
   have HC2 := Lib.hid hcm2; have HL2 := Lib.hid hle2
   clear h1 hm hk0 hrow hof hin hfit hrow2 hof2 hin2 hfit2 he hst0 hst1 hV hle hcm
   go_upto_region 4 with (fail)
   go_cut [6, 7] from 21 to 30 (fun s6 s7 w' => ∃ b6 b7, s6 = .pointer (some ⟨b6, 0, none⟩) ∧ s7 = .pointer (some ⟨b7, 0, none⟩) ∧ OwF (fun _ => False) wr w' [(b7, y.cells, 31), (b6, x.cells, 31)])
   case first =>
    replace O := O.drew
    refine wp_region_J (rdf [(3, p, 4, [(.slice (some ⟨g, o, none⟩) (k + 1) cp)]), (7, g, (o + k * 200), x.cells)]) [9, 10, 11, 12, 13] (by kernel_rfl) (RdA.cons (F4.out.grown (O.tch.grown (fun _ h => h.elim)) (by simp)) (RdA.cons (FX.out.grown (O.tch.grown (fun _ h => h.elim)) (by simp)) RdA.nil)) (fun hH => ?_)
    refine jp 0 ((.pointer (some ⟨p, 0, none⟩))) (Still.all hH) ?_
    simp only [Act.put, jq1, jq3, jq4, jq5, jq6]
    refine jp 1 ((.pointer (some ⟨p, 0, none⟩))) (Still.all hH) ?_
    simp only [Act.put, jq1, jq2, jq3, jq4, jq5, jq6]
    refine jp 2 ((.pointer (some ⟨p, 4, none⟩))) (Still.all hH) ?_
    simp only [Act.put, jq1, jq2, jq3, jq4, jq5, jq6]
    refine jr 0 3 ((.slice (some ⟨g, o, none⟩) (k + 1) cp)) rfl rfl (yields_cell (by rfl) 70 _ rfl p 4 rfl (.slice (some ⟨g, o, none⟩) (k + 1) cp) _ (fun W h => h) Tryz.underlying70 rfl) (Still.all hH) ?_
    simp only [Act.put, jq1, jq2, jq3, jq4, jq5, jq6]
    refine jp 4 ((.int .i64 ((k + 1 : Nat) : Int))) (Still.all hH) ?_
    simp only [Act.put, jq1, jq2, jq3, jq4, jq5, jq6]
    refine jp 5 ((.int .i64 (k : Int))) (Still.all hH) ?_
    simp only [Act.put, jq1, jq2, jq3, jq4, jq5, jq6]
    refine jp 6 ((.pointer (some ⟨g, o + k * 200, none⟩))) (Still.all hH) ?_
    simp only [Act.put, jq1, jq2, jq3, jq4, jq5, jq6]
    refine jr 1 7 ((.agg (x.cells).toArray)) rfl rfl (yieldsIf_load_mid (by rfl) 31 _ rfl g (o + k * 200) rfl x.cells _ (fun W h => h) Tryz.underlying31 rfl (sizeLt _ XW.out)) (Still.all hH) ?_
    simp only [Act.put, jq1, jq2, jq3, jq4, jq5, jq6]
    refine jp 8 ((.pointer (some ⟨p, 0, none⟩))) (Still.all hH) ?_
    simp only [Act.put, jq1, jq2, jq3, jq4, jq5, jq6]
    refine wpAnyJ_ready (rs := [9, 10, 11]) (by kernel_rfl) (by simp) ?_
    refine AllJ.keep rfl (by rfl) (by rfl) (fun K hK => ?_) (AllJ.keep rfl (by rfl) (by rfl) (fun K hK => ?_) (AllJ.keep rfl (by rfl) (by rfl) (fun K hK => ?_) (AllJ.nil)))
    ·refine wp_call 75 _ _ (by rfl) (enters Tryz.func75 (by kernel_rfl) rfl) (by rfl) (CL.out _ (O.tch.grown (fun _ h => h.elim))) ?_
     rintro e u ⟨rfl, g1⟩
     refine ⟨_, rfl, ?_⟩
     replace O := O.call g1
     simp only [Act.put, jq1, jq2, jq3, jq4, jq5, jq6]
     refine hK.out _ _ (RdA.grown hH g1) ?_
     replace hH := RdA.grown hH g1
     clear hK K
     clear g1
     refine wpAnyJ_ready (rs := [10, 11]) (by kernel_rfl) (by simp) ?_
     refine AllJ.keep rfl (by rfl) (by rfl) (fun K hK => ?_) (AllJ.keep rfl (by rfl) (by rfl) (fun K hK => ?_) (AllJ.nil))
     ·refine wp_of_alloc 31 rfl ZLt0 ZLt0_info O ?_
      clear O
      intro b6 u g1 O
      simp only [Act.put, jq1, jq2, jq3, jq4, jq5, jq6]
      refine hK.out _ _ (RdA.grown hH g1) ?_
      replace hH := RdA.grown hH g1
      clear hK K
      clear g1
      refine wpAnyJ_ready (rs := [11]) (by kernel_rfl) (by simp) ?_
      refine AllJ.keep rfl (by rfl) (by rfl) (fun K hK => ?_) (AllJ.nil)
      refine wp_of_alloc 31 rfl ZLt0 ZLt0_info O ?_
      clear O
      intro b7 u g1 O
      simp only [Act.put, jq1, jq2, jq3, jq4, jq5, jq6]
      refine hK.out _ _ (RdA.grown hH g1) ?_
      replace hH := RdA.grown hH g1
      clear hK K
      clear g1
      refine wpAnyJ_ready (rs := [12]) (by kernel_rfl) (by simp) ?_
      refine AllJ.turn rfl (by rfl) (by rfl) (fun K hK => ?_) (AllJ.nil)
      refine wp_of_store 31 _ _ rfl O 1 b6 rfl x.cells ZLt0 _ rfl rfl (LtR.cells_length _ XW.out) (LtR_one _) (sizeLt _ XW.out) ?_
      clear O
      intro u O
      simp only [List.set_cons_zero, List.set_cons_succ] at O
      simp only [Act.put, jq1, jq2, jq3]
      refine hK.out _ _ (waits_all (by kernel_rfl)) ?_
      clear hK K hH
      refine wpAnyJ_ready (rs := [13]) (by kernel_rfl) (by simp) ?_
      refine AllJ.turn rfl (by rfl) (by rfl) (fun K hK => ?_) (AllJ.nil)
      refine wp_of_store 31 _ _ rfl O 0 b7 rfl y.cells ZLt0 _ rfl rfl (LtR.cells_length _ YW.out) (LtR_one _) (sizeLt _ YW.out) ?_
      clear O
      intro u O
      simp only [List.set_cons_zero] at O
      simp only [Act.put, jq1, jq2, jq3]
      refine hK.out _ _ (waits_all (by kernel_rfl)) ?_
      clear hK K
      refine wpAnyJ_done (by kernel_rfl) ?_ _
      go_wp2
      go_meet
      case rel => exact ⟨b6, b7, rfl, rfl, O⟩
     ·refine wp_of_alloc 31 rfl ZLt0 ZLt0_info O ?_
      clear O
      intro b7 u g1 O
      simp only [Act.put, jq1, jq2, jq3]
      refine hK.out _ _ (RdA.grown hH g1) ?_
      replace hH := RdA.grown hH g1
      clear hK K
      clear g1
      refine wpAnyJ_ready (rs := [10]) (by kernel_rfl) (by simp) ?_
      refine AllJ.keep rfl (by rfl) (by rfl) (fun K hK => ?_) (AllJ.nil)
      refine wp_of_alloc 31 rfl ZLt0 ZLt0_info O ?_
      clear O
      intro b6 u g1 O
      simp only [Act.put, jq1, jq2, jq3, jq4, jq5, jq6]
      refine hK.out _ _ (RdA.grown hH g1) ?_
      replace hH := RdA.grown hH g1
      clear hK K
      clear g1
      refine wpAnyJ_ready (rs := [12]) (by kernel_rfl) (by simp) ?_
      refine AllJ.turn rfl (by rfl) (by rfl) (fun K hK => ?_) (AllJ.nil)
      refine wp_of_store 31 _ _ rfl O 0 b6 rfl x.cells ZLt0 _ rfl rfl (LtR.cells_length _ XW.out) (LtR_one _) (sizeLt _ XW.out) ?_
      clear O
      intro u O
      simp only [List.set_cons_zero] at O
      simp only [Act.put, jq1, jq2, jq3]
      refine hK.out _ _ (waits_all (by kernel_rfl)) ?_
      clear hK K hH
      refine wpAnyJ_ready (rs := [13]) (by kernel_rfl) (by simp) ?_
      refine AllJ.turn rfl (by rfl) (by rfl) (fun K hK => ?_) (AllJ.nil)
      refine wp_of_store 31 _ _ rfl O 1 b7 rfl y.cells ZLt0 _ rfl rfl (LtR.cells_length _ YW.out) (LtR_one _) (sizeLt _ YW.out) ?_
      clear O
      intro u O
      simp only [List.set_cons_zero, List.set_cons_succ] at O
      simp only [Act.put, jq1, jq2, jq3]
      refine hK.out _ _ (waits_all (by kernel_rfl)) ?_
      clear hK K
      refine wpAnyJ_done (by kernel_rfl) ?_ _
      go_wp2
      go_meet
      case rel => exact ⟨b6, b7, rfl, rfl, O.perm (List.Perm.swap _ _ _)⟩
    ·refine wp_of_alloc 31 rfl ZLt0 ZLt0_info O ?_
     clear O
     intro b6 u g1 O
     simp only [Act.put, jq1, jq2, jq3, jq4, jq5, jq6]
     refine hK.out _ _ (RdA.grown hH g1) ?_
     replace hH := RdA.grown hH g1
     clear hK K
     clear g1
     refine wpAnyJ_ready (rs := [9, 11]) (by kernel_rfl) (by simp) ?_
     refine AllJ.keep rfl (by rfl) (by rfl) (fun K hK => ?_) (AllJ.keep rfl (by rfl) (by rfl) (fun K hK => ?_) (AllJ.nil))
     ·refine wp_call 75 _ _ (by rfl) (enters Tryz.func75 (by kernel_rfl) rfl) (by rfl) (CL.out _ (O.tch.grown (fun _ h => h.elim))) ?_
      rintro e u ⟨rfl, g1⟩
      refine ⟨_, rfl, ?_⟩
      replace O := O.call g1
      simp only [Act.put, jq1, jq2, jq3]
      refine hK.out _ _ (RdA.grown hH g1) ?_
      replace hH := RdA.grown hH g1
      clear hK K
      clear g1
      refine wpAnyJ_ready (rs := [11]) (by kernel_rfl) (by simp) ?_
      refine AllJ.keep rfl (by rfl) (by rfl) (fun K hK => ?_) (AllJ.nil)
      refine wp_of_alloc 31 rfl ZLt0 ZLt0_info O ?_
      clear O
      intro b7 u g1 O
      simp only [Act.put, jq1, jq2, jq3, jq4, jq5, jq6]
      refine hK.out _ _ (RdA.grown hH g1) ?_
      replace hH := RdA.grown hH g1
      clear hK K
      clear g1
      refine wpAnyJ_ready (rs := [12]) (by kernel_rfl) (by simp) ?_
      refine AllJ.turn rfl (by rfl) (by rfl) (fun K hK => ?_) (AllJ.nil)
      refine wp_of_store 31 _ _ rfl O 1 b6 rfl x.cells ZLt0 _ rfl rfl (LtR.cells_length _ XW.out) (LtR_one _) (sizeLt _ XW.out) ?_
      clear O
      intro u O
      simp only [List.set_cons_zero, List.set_cons_succ] at O
      simp only [Act.put, jq1, jq2, jq3]
      refine hK.out _ _ (waits_all (by kernel_rfl)) ?_
      clear hK K hH
      refine wpAnyJ_ready (rs := [13]) (by kernel_rfl) (by simp) ?_
      refine AllJ.turn rfl (by rfl) (by rfl) (fun K hK => ?_) (AllJ.nil)
      refine wp_of_store 31 _ _ rfl O 0 b7 rfl y.cells ZLt0 _ rfl rfl (LtR.cells_length _ YW.out) (LtR_one _) (sizeLt _ YW.out) ?_
      clear O
      intro u O
      simp only [List.set_cons_zero] at O
      simp only [Act.put, jq1, jq2, jq3]
      refine hK.out _ _ (waits_all (by kernel_rfl)) ?_
      clear hK K
      refine wpAnyJ_done (by kernel_rfl) ?_ _
      go_wp2
      go_meet
      case rel => exact ⟨b6, b7, rfl, rfl, O⟩
     ·refine wp_of_alloc 31 rfl ZLt0 ZLt0_info O ?_
      clear O
      intro b7 u g1 O
      simp only [Act.put, jq1, jq2, jq3, jq4, jq5, jq6]
      refine hK.out _ _ (RdA.grown hH g1) ?_
      replace hH := RdA.grown hH g1
      clear hK K
      clear g1
      refine wpAnyJ_ready (rs := [9]) (by kernel_rfl) (by simp) ?_
      refine AllJ.keep rfl (by rfl) (by rfl) (fun K hK => ?_) (AllJ.nil)
      refine wp_call 75 _ _ (by rfl) (enters Tryz.func75 (by kernel_rfl) rfl) (by rfl) (CL.out _ (O.tch.grown (fun _ h => h.elim))) ?_
      rintro e u ⟨rfl, g1⟩
      refine ⟨_, rfl, ?_⟩
      replace O := O.call g1
      simp only [Act.put, jq1, jq2, jq3, jq4, jq5, jq6]
      refine hK.out _ _ (RdA.grown hH g1) ?_
      replace hH := RdA.grown hH g1
      clear hK K
      clear g1
      refine wpAnyJ_ready (rs := [12]) (by kernel_rfl) (by simp) ?_
      refine AllJ.turn rfl (by rfl) (by rfl) (fun K hK => ?_) (AllJ.nil)
      refine wp_of_store 31 _ _ rfl O 1 b6 rfl x.cells ZLt0 _ rfl rfl (LtR.cells_length _ XW.out) (LtR_one _) (sizeLt _ XW.out) ?_
      clear O
      intro u O
      simp only [List.set_cons_zero, List.set_cons_succ] at O
      simp only [Act.put, jq1, jq2, jq3]
      refine hK.out _ _ (waits_all (by kernel_rfl)) ?_
      clear hK K hH
      refine wpAnyJ_ready (rs := [13]) (by kernel_rfl) (by simp) ?_
      refine AllJ.turn rfl (by rfl) (by rfl) (fun K hK => ?_) (AllJ.nil)
      refine wp_of_store 31 _ _ rfl O 0 b7 rfl y.cells ZLt0 _ rfl rfl (LtR.cells_length _ YW.out) (LtR_one _) (sizeLt _ YW.out) ?_
      clear O
      intro u O
      simp only [List.set_cons_zero] at O
      simp only [Act.put, jq1, jq2, jq3]
      refine hK.out _ _ (waits_all (by kernel_rfl)) ?_
      clear hK K
      refine wpAnyJ_done (by kernel_rfl) ?_ _
      go_wp2
      go_meet
      case rel => exact ⟨b6, b7, rfl, rfl, O⟩
    ·refine wp_of_alloc 31 rfl ZLt0 ZLt0_info O ?_
     clear O
     intro b7 u g1 O
     simp only [Act.put, jq1, jq2, jq3, jq4, jq5, jq6]
     refine hK.out _ _ (RdA.grown hH g1) ?_
     replace hH := RdA.grown hH g1
     clear hK K
     clear g1
     refine wpAnyJ_ready (rs := [9, 10]) (by kernel_rfl) (by simp) ?_
     refine AllJ.keep rfl (by rfl) (by rfl) (fun K hK => ?_) (AllJ.keep rfl (by rfl) (by rfl) (fun K hK => ?_) (AllJ.nil))
     ·refine wp_call 75 _ _ (by rfl) (enters Tryz.func75 (by kernel_rfl) rfl) (by rfl) (CL.out _ (O.tch.grown (fun _ h => h.elim))) ?_
      rintro e u ⟨rfl, g1⟩
      refine ⟨_, rfl, ?_⟩
      replace O := O.call g1
      simp only [Act.put, jq1, jq2, jq3]
      refine hK.out _ _ (RdA.grown hH g1) ?_
      replace hH := RdA.grown hH g1
      clear hK K
      clear g1
      refine wpAnyJ_ready (rs := [10]) (by kernel_rfl) (by simp) ?_
      refine AllJ.keep rfl (by rfl) (by rfl) (fun K hK => ?_) (AllJ.nil)
      refine wp_of_alloc 31 rfl ZLt0 ZLt0_info O ?_
      clear O
      intro b6 u g1 O
      simp only [Act.put, jq1, jq2, jq3, jq4, jq5, jq6]
      refine hK.out _ _ (RdA.grown hH g1) ?_
      replace hH := RdA.grown hH g1
      clear hK K
      clear g1
      refine wpAnyJ_ready (rs := [12]) (by kernel_rfl) (by simp) ?_
      refine AllJ.turn rfl (by rfl) (by rfl) (fun K hK => ?_) (AllJ.nil)
      refine wp_of_store 31 _ _ rfl O 0 b6 rfl x.cells ZLt0 _ rfl rfl (LtR.cells_length _ XW.out) (LtR_one _) (sizeLt _ XW.out) ?_
      clear O
      intro u O
      simp only [List.set_cons_zero] at O
      simp only [Act.put, jq1, jq2, jq3]
      refine hK.out _ _ (waits_all (by kernel_rfl)) ?_
      clear hK K hH
      refine wpAnyJ_ready (rs := [13]) (by kernel_rfl) (by simp) ?_
      refine AllJ.turn rfl (by rfl) (by rfl) (fun K hK => ?_) (AllJ.nil)
      refine wp_of_store 31 _ _ rfl O 1 b7 rfl y.cells ZLt0 _ rfl rfl (LtR.cells_length _ YW.out) (LtR_one _) (sizeLt _ YW.out) ?_
      clear O
      intro u O
      simp only [List.set_cons_zero, List.set_cons_succ] at O
      simp only [Act.put, jq1, jq2, jq3]
      refine hK.out _ _ (waits_all (by kernel_rfl)) ?_
      clear hK K
      refine wpAnyJ_done (by kernel_rfl) ?_ _
      go_wp2
      go_meet
      case rel => exact ⟨b6, b7, rfl, rfl, O.perm (List.Perm.swap _ _ _)⟩
     ·refine wp_of_alloc 31 rfl ZLt0 ZLt0_info O ?_
      clear O
      intro b6 u g1 O
      simp only [Act.put, jq1, jq2, jq3]
      refine hK.out _ _ (RdA.grown hH g1) ?_
      replace hH := RdA.grown hH g1
      clear hK K
      clear g1
      refine wpAnyJ_ready (rs := [9]) (by kernel_rfl) (by simp) ?_
      refine AllJ.keep rfl (by rfl) (by rfl) (fun K hK => ?_) (AllJ.nil)
      refine wp_call 75 _ _ (by rfl) (enters Tryz.func75 (by kernel_rfl) rfl) (by rfl) (CL.out _ (O.tch.grown (fun _ h => h.elim))) ?_
      rintro e u ⟨rfl, g1⟩
      refine ⟨_, rfl, ?_⟩
      replace O := O.call g1
      simp only [Act.put, jq1, jq2, jq3]
      refine hK.out _ _ (RdA.grown hH g1) ?_
      replace hH := RdA.grown hH g1
      clear hK K
      clear g1
      refine wpAnyJ_ready (rs := [12]) (by kernel_rfl) (by simp) ?_
      refine AllJ.turn rfl (by rfl) (by rfl) (fun K hK => ?_) (AllJ.nil)
      refine wp_of_store 31 _ _ rfl O 0 b6 rfl x.cells ZLt0 _ rfl rfl (LtR.cells_length _ XW.out) (LtR_one _) (sizeLt _ XW.out) ?_
      clear O
      intro u O
      simp only [List.set_cons_zero] at O
      simp only [Act.put, jq1, jq2, jq3]
      refine hK.out _ _ (waits_all (by kernel_rfl)) ?_
      clear hK K hH
      refine wpAnyJ_ready (rs := [13]) (by kernel_rfl) (by simp) ?_
      refine AllJ.turn rfl (by rfl) (by rfl) (fun K hK => ?_) (AllJ.nil)
      refine wp_of_store 31 _ _ rfl O 1 b7 rfl y.cells ZLt0 _ rfl rfl (LtR.cells_length _ YW.out) (LtR_one _) (sizeLt _ YW.out) ?_
      clear O
      intro u O
      simp only [List.set_cons_zero, List.set_cons_succ] at O
      simp only [Act.put, jq1, jq2, jq3, jq4, jq5, jq6]
      refine hK.out _ _ (waits_all (by kernel_rfl)) ?_
      clear hK K
      refine wpAnyJ_done (by kernel_rfl) ?_ _
      go_wp2
      go_meet
      case rel => exact ⟨b6, b7, rfl, rfl, O.perm (List.Perm.swap _ _ _)⟩
   obtain ⟨b6, b7, rfl, rfl, O⟩ := hcut
   go_upto_region 5 with (fail)
   replace O := O.drew
   refine wp_region_J (rdf [(0, b7, 0, y.cells), (1, b6, 0, x.cells), (6, p, 0, c1.o.cells)]) [7] (by kernel_rfl) (RdA.cons (O.row_of (g := b7) (T := 31) (by simp)) (RdA.cons (O.row_of (g := b6) (T := 31) (by simp)) (RdA.cons (FO.out.grown (O.tch.grown (fun _ h => h.elim)) (by simp)) RdA.nil))) (fun hH => ?_)
   refine jr 0 0 ((.agg (y.cells).toArray)) rfl rfl (yieldsIf_load_mid (by rfl) 31 _ rfl b7 0 rfl y.cells _ (fun W h => h) Tryz.underlying31 rfl (sizeLt _ YW.out)) (Still.all hH) ?_
   simp only [Act.put, jq1, jq3, jq4, jq5, jq6]
   refine jr 1 1 ((.agg (x.cells).toArray)) rfl rfl (yieldsIf_load_mid (by rfl) 31 _ rfl b6 0 rfl x.cells _ (fun W h => h) Tryz.underlying31 rfl (sizeLt _ XW.out)) (Still.all hH) ?_
   simp only [Act.put, jq1, jq2, jq3, jq4, jq5, jq6]
   refine jp 2 ((.float .f64 now)) (Still.all hH) ?_
   simp only [Act.put, jq1, jq2, jq3, jq4, jq5, jq6]
   refine jp 3 ((.pointer (some ⟨p, 0, none⟩))) (Still.all hH) ?_
   simp only [Act.put, jq1, jq2, jq3, jq4, jq5, jq6]
   refine jp 4 ((.pointer (some ⟨p, 0, none⟩))) (Still.all hH) ?_
   simp only [Act.put, jq1, jq2, jq3, jq4, jq5, jq6]
   refine jp 5 ((.pointer (some ⟨p, 0, none⟩))) (Still.all hH) ?_
   simp only [Act.put, jq1, jq2, jq3, jq4, jq5, jq6]
   refine jr 2 6 ((.agg (c1.o.cells).toArray)) rfl rfl (yieldsIf_load_mid (by rfl) 35 _ rfl p 0 rfl c1.o.cells _ (fun W h => h) Tryz.underlying35 rfl sizeOpt) (Still.all hH) ?_
   simp only [Act.put, jq1, jq2, jq3, jq4, jq5, jq6]
   refine wpAnyJ_ready (rs := [7]) (by kernel_rfl) (by simp) ?_
   refine AllJ.keep rfl (by rfl) (by rfl) (fun K hK => ?_) (AllJ.nil)
   refine wp_call 17 _ _ (by rfl) (enters Tryz.func17 (by kernel_rfl) rfl) (by rfl) (CP.out _ (O.tch.grown (fun _ h => h.elim))) ?_
   rintro e u ⟨rfl, g1⟩
   refine ⟨_, rfl, ?_⟩
   replace O := O.call g1
   simp only [Act.put, jq1, jq2, jq3, jq4, jq5, jq6]
   refine hK.out _ _ (RdA.grown hH g1) ?_
   replace hH := RdA.grown hH g1
   clear hK K
   clear g1
   refine jp 8 ((.int .i64 V)) (Still.all hH) ?_
   simp only [Act.put, jq1, jq2, jq3, jq4, jq5, jq6]
   refine wpAnyJ_done (by kernel_rfl) ?_ _
   clear hH
   have hgs := (H1.out.store.lt (b := gs) rfl)
   by_cases c0 : V = 0
   ·have hok := HS0.out c0
    have he := HE.out
    rw [if_pos c0] at he
    subst c0
    have HE2 := Lib.hid he; have HOK := Lib.hid hok
    clear HE HS0 HS1 he hok CL CP
    go_upto_region 11 with (fail)
    replace O := O.drew
    refine wp_region_J (rdf [(4, p, 3, [(.slice (some ⟨gs, os, none⟩) (m + 1) cs)]), (5, b6, 0, x.cells)]) [6, 7, 10] (by kernel_rfl) (RdA.cons (F3.out.grown (O.tch.grown (fun _ h => h.elim)) (by simp)) (RdA.cons (O.row_of (g := b6) (T := 31) (by simp)) RdA.nil)) (fun hH => ?_)
    refine jp 0 ((.pointer (some ⟨p, 0, none⟩))) (Still.all hH) ?_
    simp only [Act.put, jq1, jq4]
    refine jp 1 ((.pointer (some ⟨p, 0, none⟩))) (Still.all hH) ?_
    simp only [Act.put, jq1, jq3, jq4, jq5, jq6]
    refine jp 2 ((.pointer (some ⟨p, 0, none⟩))) (Still.all hH) ?_
    simp only [Act.put, jq1, jq2, jq3, jq4, jq5, jq6]
    refine jp 3 ((.pointer (some ⟨p, 3, none⟩))) (Still.all hH) ?_
    simp only [Act.put, jq1, jq2, jq3, jq4, jq5, jq6]
    refine jr 0 4 ((.slice (some ⟨gs, os, none⟩) (m + 1) cs)) rfl rfl (yields_cell (by rfl) 70 _ rfl p 3 rfl (.slice (some ⟨gs, os, none⟩) (m + 1) cs) _ (fun W h => h) Tryz.underlying70 rfl) (Still.all hH) ?_
    simp only [Act.put, jq1, jq2, jq3, jq4, jq5, jq6]
    refine jr 1 5 ((.agg (x.cells).toArray)) rfl rfl (yieldsIf_load_mid (by rfl) 31 _ rfl b6 0 rfl x.cells _ (fun W h => h) Tryz.underlying31 rfl (sizeLt _ XW.out)) (Still.all hH) ?_
    simp only [Act.put, jq1, jq2, jq3, jq4, jq5, jq6]
    refine wpAnyJ_ready (rs := [6]) (by kernel_rfl) (by simp) ?_
    refine AllJ.keep rfl (by rfl) (by rfl) (fun K hK => ?_) (AllJ.nil)
    refine wp_of_slice1 70 _ rfl x.cells rfl 31 _ 200 Tryz.underlying70 light_inf2 (x.cells_length XW.out) (by decide) O ?_
    clear O
    intro b8 u g1 O
    simp only [Act.put, jq1, jq2, jq3, jq4, jq5, jq6]
    refine hK.out _ _ (RdA.grown hH g1) ?_
    replace hH := RdA.grown hH g1
    clear hK K
    clear g1
    refine wpAnyJ_ready (rs := [7]) (by kernel_rfl) (by simp) ?_
    refine AllJ.keep rfl (by rfl) (by rfl) (fun K hK => ?_) (AllJ.nil)
    refine wp_of_appL _ _ rfl (H1.out.grown (O.tch.grown (fun _ h => h.elim))).store (HX.out.1.up (O.tch.grown (fun _ h => h.elim)) (Nat.le_refl _)) HX.out.2.1 HX.out.2.2 (fun b hb => (H1.out.out b hb).2.2.1) (by have := H1.out.ok.room; omega) rfl b8 rfl (O.row_of (g := b8) (T := 31) (by simp)) ?_
    intro a9 n9 c9 u9 hL t9 o9
    have z8 := O.tch.size
    have hb6 : ¬ (Value.slice (some ⟨gs, os, none⟩) (m + 1) cs).ownBlock = some b6 := fun e => by injection e with e; have h2 := (O.lie 2 rfl).resolve_right id; dsimp only at e; omega
    have hH9 := RdA.tch hH t9 (by intro e he; simp only [List.mem_cons, List.not_mem_nil, or_false] at he; rcases he with rfl | rfl; exact H1.out.ps; exact hb6)
    have t10 := (O.tch.mono (G := fun b => (Value.slice (some ⟨gs, os, none⟩) (m + 1) cs).ownBlock = some b) (fun _ h _ => h.elim)).trans t9 (fun b hb _ => hb)
    have OQ := (OwF.start (fun b => b = p) u9).add (t10.blk H1.out.blk H1.out.ps) rfl (by simp)
    clear O
    simp only [Act.put, jq1, jq2, jq3, jq4, jq5, jq6]
    refine hK.out _ _ hH9 ?_
    replace hH := hH9
    clear hK K hH9
    refine jp 8 ((.pointer (some ⟨p, 0, none⟩))) (Still.all hH) ?_
    simp only [Act.put, jq1, jq2, jq3, jq4, jq5, jq6]
    refine jp 9 ((.pointer (some ⟨p, 3, none⟩))) (Still.all hH) ?_
    simp only [Act.put, jq1, jq2, jq3, jq4, jq5, jq6]
    refine wpAnyJ_ready (rs := [10]) (by kernel_rfl) (by simp) ?_
    refine AllJ.turn rfl (by rfl) (by rfl) (fun K hK => ?_) (AllJ.nil)
    refine wp_of_store_cell 70 _ _ rfl OQ 0 p 3 rfl (.slice a9 n9 c9) rfl (by kernel_rfl) _ _ rfl (by show (3 : Nat) < 8; decide) rfl ?_
    clear OQ
    intro w OQ
    simp only [List.set_cons_zero] at OQ
    simp only [Act.put, jq1, jq2, jq3]
    refine hK.out _ _ (waits_all (by kernel_rfl)) ?_
    clear hK K hH
    refine wpAnyJ_done (by kernel_rfl) ?_ _
    go_wp2_with (first | ((with_reducible refine @wpList_at _ _ _ _ _ _ _ (.load 70 (.tmp 60)) rfl ?_); refine @wpList_of_cell _ _ _ _ _ _ _ _ _ _ 70 (.tmp 60) rfl OQ 0 p 4 rfl _ _ rfl _ rfl _ Tryz.underlying70 rfl rfl ?_) | ((with_reducible refine @wpList_at _ _ _ _ _ _ _ (.store 70 (.tmp 66) (.tmp 64)) rfl ?_); refine @wpList_of_store_cell _ _ _ _ _ _ _ _ _ _ 70 (.tmp 66) (.tmp 64) rfl OQ 0 p 4 rfl (.slice (some ⟨g, o, none⟩) k cp) rfl (by kernel_rfl) _ _ rfl (by show (4 : Nat) < 8; decide) rfl rfl ?_; clear OQ; intro w OQ; simp only [List.set_cons_zero] at OQ) | ((with_reducible refine @wpList_at _ _ _ _ _ _ _ (.load 70 (.tmp 18)) rfl ?_); refine @wpList_of_cell _ _ _ _ _ _ _ _ _ _ 70 (.tmp 18) rfl OQ 0 p 4 rfl _ _ rfl _ rfl _ Tryz.underlying70 rfl rfl ?_))
    have o10 : (Value.slice a9 n9 c9).ownBlock = (Value.slice (some ⟨gs, os, none⟩) (m + 1) cs).ownBlock ∨ ∃ b, (Value.slice a9 n9 c9).ownBlock = some b ∧ wr.heap.size ≤ b := by
     rcases o9 with e | ⟨b, e, hb⟩
     ·exact .inl e
     ·exact .inr ⟨b, e, Nat.le_trans z8 hb⟩
    have zw := T1.out.size
    have t11 := T1.out.trans t10 (fun b hb hl => (F1.out b (.inr (.inl hb))).resolve_right (by omega))
    refine ⟨⟨{ c1 with store := c1.store ++ [lastB c1.pend], pend := c1.pend.dropLast }, _, _, k, rfl, by have := HK.out; simp [this], H1.out.push t10 OQ.tch hL o10 HK.out (OQ.at_ 0 rfl) rfl rfl HOK.out, t11.trans OQ.tch (fun b hb _ => .inl hb), ?_, ?_⟩, by simp [intOf]⟩
    ·intro b hb
     rcases hb with hb | hb | hb
     ·exact .inl (.inl hb)
     ·rcases o10 with e | ⟨d, e, hd⟩
      ·exact F1.out b (.inr (.inl (e ▸ hb)))
      ·rw [hb] at e
       injection e with e
       subst e
       exact .inr (Nat.le_trans zw hd)
     ·exact F1.out b (.inr (.inr hb))
    ·have h := HE2.out
     have hl : c1.pend.dropLast.length = k := by rw [List.length_dropLast, HK.out]; omega
     dsimp only
     rw [hl]; exact h
   ·by_cases c2 : V = 159
    ·have he := HE.out
     rw [if_neg c0, if_pos c2] at he
     obtain ⟨hb, hok⟩ := HS1.out c2
     subst c2
     have P7 : y.cells[1]? = some (.int .i64 (lastB c1.store).header.height) := by rw [← HY.out.1.header]; rfl
     have P6 : x.cells[1]? = some (.int .i64 (lastB c1.pend).header.height) := by rw [← HX.out.1.header]; rfl
     obtain ⟨A1, hA1⟩ : ∃ z, (lastB c1.store).header.height = z := ⟨_, rfl⟩
     obtain ⟨B1, hB1⟩ : ∃ z, (lastB c1.pend).header.height = z := ⟨_, rfl⟩
     rw [hA1] at P7 hb he hok; rw [hB1] at P6 hb he hok
     obtain ⟨D, hD⟩ : ∃ d : Nat, B1 = A1 + d := ⟨(B1 - A1).toNat, by omega⟩
     subst hD
     have hdd : A1 + (D : Int) - A1 = D := by omega
     rw [hdd] at he hok
     have hq : (D : Int).tdiv 2 = ((D / 2 : Nat) : Int) := by rw [Int.tdiv_eq_ediv_of_nonneg (by omega)]; omega
     have hq2 : (D : Int) / 2 = ((D / 2 : Nat) : Int) := by omega
     rw [hq2] at he hok
     obtain ⟨E, hE⟩ : ∃ e : Nat, D / 2 = e := ⟨_, rfl⟩
     rw [hE] at hq hq2 he hok
     have ew1 := IntWalk.i64_in (D : Int) (by omega)
     have ew2 := IntWalk.i64_in (E : Int) (by omega)
     have ew3 := IntWalk.i64_in (A1 + (E : Int)) (by omega)
     have HE3 := Lib.hid he; have HOK := Lib.hid hok
     clear he hok hA1 hB1 hE hb CL CP HE HS0 HS1 hix ew c0
     replace P6 := Lib.hid P6; replace P7 := Lib.hid P7
     replace O := O.join (F := fun b => b = p) H1.out.blk rfl
     go_wp2_with (first | ((with_reducible refine @wpList_at _ _ _ _ _ _ _ (.load 3 (.tmp 69)) rfl ?_); refine @wpList_of_cell _ _ _ _ _ _ _ _ _ _ 3 (.tmp 69) rfl O 1 b7 1 rfl _ _ rfl _ P7.out _ Tryz.underlying3 rfl rfl ?_) | ((with_reducible refine @wpList_at _ _ _ _ _ _ _ (.load 3 (.tmp 72)) rfl ?_); refine @wpList_of_cell _ _ _ _ _ _ _ _ _ _ 3 (.tmp 72) rfl O 2 b6 1 rfl _ _ rfl _ P6.out _ Tryz.underlying3 rfl rfl ?_) | ((with_reducible refine @wpList_at _ _ _ _ _ _ _ (.load 3 (.tmp 75)) rfl ?_); refine @wpList_of_cell _ _ _ _ _ _ _ _ _ _ 3 (.tmp 75) rfl O 1 b7 1 rfl _ _ rfl _ P7.out _ Tryz.underlying3 rfl rfl ?_) | ((with_reducible refine @wpList_at _ _ _ _ _ _ _ (.store 3 (.tmp 81) (.tmp 79)) rfl ?_); refine @wpList_of_store_cell _ _ _ _ _ _ _ _ _ _ 3 (.tmp 81) (.tmp 79) rfl O 0 p 5 rfl (.int .i64 (A1 + (E : Int))) rfl (by kernel_rfl) _ _ rfl (by show (5 : Nat) < 8; decide) rfl rfl ?_; clear O; intro w O; simp only [List.set_cons_zero] at O))
     go_ret
     rw [← HE3.out]
     refine ⟨rfl, _, _, H1.out.put O.tch (O.at_ 0 rfl) rfl (.inl ⟨rfl, rfl⟩) HOK.out, T1.out.trans O.tch (fun b hb _ => .inl hb), F1.out⟩
    ·have he := HE.out
     rw [if_neg c0, if_neg c2] at he
     have CD := Lib.hid (fun w (gg : wr.grownBy w none) => drop_ok (H1.out.grown gg))
     have d0 : (V == 0) = false := by simpa using c0
     have d1 : (V == 159) = false := by simpa using c2
     obtain ⟨q1, hq1⟩ : ∃ q, (V == 155) = q := ⟨_, rfl⟩
     obtain ⟨q2, hq2⟩ : ∃ q, (V == 156) = q := ⟨_, rfl⟩
     have HE3 := Lib.hid he
     clear he CL CP HE HS0 HS1 hix ew c0 c2
     have G9 := O.tch.grown (fun _ h => h.elim)
     cases q1 <;> cases q2 <;> (
      go_wp2_with fail
      refine (CD.out _ G9).mono ?_
      rintro e w2 ⟨rfl, r2, t2⟩
      go_wp2_with fail
      go_ret
      rw [← HE3.out]
      refine ⟨rfl, _, _, r2, T1.out.trans ((Tch.of_grown (F := fun b => b = p) G9).trans t2 (fun b hb _ => hb)) (fun b hb _ => .inl hb), fun b hb => ?_⟩
      rcases hb with hb | hb | hb
      ·exact .inl (.inl hb)
      ·exact F1.out b (.inr (.inl hb))
      ·cases hb)
section
variable {P : Program} {ops : Array Oper} {rest : List Oper} {o : Oper} {a : Act} {w : World} {Q : Exit → Act → World → Prop}
theorem wpList_field_part (ty : TypeId) (x : Operand) (i : Nat) (ho : o.op = .field ty x i) (cs : List Value) (hx : a.eval x = .agg cs.toArray) (fields : Array Field) (hu : P.underlying ty = some (.struct fields)) (t : TypeId) (off : Nat) (hf : (fields[i]?).map (fun f => (f.type, f.offset)) = some (t, off))
  (d : TypeDesc) (hd : P.underlying t = some d) (hr : (match d with | .struct _ | .array _ _ => true | _ => false) = true) (vs : List Value) (hs : (P.info? t).map (·.size) = some vs.length) (hv : (cs.drop off).take vs.length = vs)
  (hgd : Region.wanted o (yielded ops a.tmps) = true) (h : wpList P ops Q rest (a.put o.dst (.agg vs.toArray)) w) : wpList P ops Q (o :: rest) a w := by
 have hrun : (Instr.field ty (.agg cs.toArray) i).run P w = .ok (.agg vs.toArray) w := by
  cases hq : fields[i]? with
  | none => rw [hq] at hf; cases hf
  | some f =>
   rw [hq] at hf
   simp only [Option.map_some, Option.some.injEq, Prod.mk.injEq] at hf
   obtain ⟨rfl, rfl⟩ := hf
   have ha : (isAgg f.type).run P w = .ok true w := by
    unfold isAgg
    rw [Sem.run_bind, run_underlying hd w]
    cases d <;> simp_all
   cases hi : P.info? f.type with
   | none => rw [hi] at hs; cases hs
   | some z =>
    rw [hi] at hs
    have hz : z.size = vs.length := by simpa using hs
    have he : (cs.toArray.extract f.offset (f.offset + vs.length)) = vs.toArray := by
     apply Array.ext'
     rw [Array.toList_extract, List.extract_eq_take_drop]
     simpa using hv
    unfold Instr.field
    rw [Sem.run_bind, run_underlying hu w]
    simp [hq, part, asAgg, Sem.run_bind, ha, sizeOf, typeInfo, hi, hz]
    exact hv
 refine wpList_wanted hgd fun K hK => ?_
 unfold Oper.wp execOp
 simp only [ho, hx, Sem.run_bind, Sem.run_pure, Result.andThen_ok, hrun]
 exact hK _ _ h
theorem wpList_field_one (ty : TypeId) (x : Operand) (i : Nat) (ho : o.op = .field ty x i) (cs : List Value) (hx : a.eval x = .agg cs.toArray) (fields : Array Field) (hu : P.underlying ty = some (.struct fields)) (t : TypeId) (off : Nat) (hf : (fields[i]?).map (fun f => (f.type, f.offset)) = some (t, off))
  (d : TypeDesc) (hd : P.underlying t = some d) (hr : (match d with | .struct _ | .array _ _ => true | _ => false) = false) (v : Value) (hv : cs[off]? = some v)
  (hgd : Region.wanted o (yielded ops a.tmps) = true) (h : wpList P ops Q rest (a.put o.dst v) w) : wpList P ops Q (o :: rest) a w := by
 have hrun : (Instr.field ty (.agg cs.toArray) i).run P w = .ok v w := by
  cases hq : fields[i]? with
  | none => rw [hq] at hf; cases hf
  | some f =>
   rw [hq] at hf
   simp only [Option.map_some, Option.some.injEq, Prod.mk.injEq] at hf
   obtain ⟨rfl, rfl⟩ := hf
   have ha : (isAgg f.type).run P w = .ok false w := by
    unfold isAgg
    rw [Sem.run_bind, run_underlying hd w]
    cases d <;> simp_all
   unfold Instr.field
   rw [Sem.run_bind, run_underlying hu w]
   simp [hq, part, asAgg, Sem.run_bind, ha, hv]
 refine wpList_wanted hgd fun K hK => ?_
 unfold Oper.wp execOp
 simp only [ho, hx, Sem.run_bind, Sem.run_pure, Result.andThen_ok, hrun]
 exact hK _ _ h
end
theorem LtR.hdr_field {x : LtR} (_hx : x.wf) : (x.cells.drop 0).take x.header.cells.length = x.header.cells := by
 rw [List.drop_zero, LtR.cells, List.take_left]
section
variable {T : TypeId} {I : Nat → Prop} {w w1 w' : World} {p : Nat} {sv pv : Value} {c : BcD}
theorem BcPost.same (h : BcRep T I w p sv pv c) (g : w.grownBy w' none) : BcPost T I w p sv pv c w' := ⟨sv, pv, h.grown g, Tch.of_grown g, fun _ hb => .inl hb⟩
theorem BcPost.own {pv' : Value} {c' : BcD} (h : BcRep T I w' p sv pv' c') (t : Tch (fun b => b = p) w w') (hp : pv' = pv ∨ pv' = .slice none 0 0) : BcPost T I w p sv pv c' w' :=
 ⟨sv, pv', h, t.mono (fun b hb _ => .inl hb), fun b hb => by
  rcases hb with hb | hb | hb
  ·exact .inl (.inl hb)
  ·exact .inl (.inr (.inl hb))
  ·rcases hp with rfl | rfl
   ·exact .inl (.inr (.inr hb))
   ·cases hb⟩
end
theorem BcD.ok.goal {c : BcD} (h : c.ok) {n : Int} (h1 : ¬ 1099511627776 < n) (h2 : ¬ n ≤ (lastB c.store).header.height) : (c.goal n).1.ok := by
 have h3 := h.height _ (lastB_mem h.some)
 have h4 := List.length_pos_iff.2 h.some
 unfold hOk at h3
 unfold BcD.goal
 rw [if_neg h1, if_neg h2]
 exact ⟨h.o, h.some, by dsimp only; omega, by dsimp only; omega, by dsimp only; omega, by have := h.room; simp; omega, h.height⟩
set_option maxHeartbeats 4000000 in
theorem Goal_ok {I : Nat → Prop} {w0 : World} {p : Nat} {sv pv : Value} {c : BcD} (h : BcRep 125 I w0 p sv pv c) (n : Int) :
  Calls Tryz.prog 37 #[.pointer (some ⟨p, 0, none⟩), .int .i64 n] w0 fun e w' => e = .returned (.int .i64 (c.goal n).2) ∧ BcPost 125 I w0 p sv pv (c.goal n).1 w' := by
 by_cases q1 : 1099511627776 < n
 ·have d1 : decide (1099511627776 < n) = true := decide_eq_true q1
  have E : c.goal n = (c, 1) := by unfold BcD.goal; rw [if_pos q1]
  have HE := Lib.hid E; have H := Lib.hid h
  clear q1 E h
  go_enter Tryz.func37, Tryz.ntmps37
  go_wp2_with fail
  go_ret
  rw [HE.out]
  exact ⟨rfl, BcPost.same H.out (gb_refl _)⟩
 ·have d1 : decide (1099511627776 < n) = false := decide_eq_false q1
  obtain ⟨m, gs, os, cs, y, hm, rfl, hle, hcm, hrow, hof, hin, hfit⟩ := h.last
  have YW := Lib.hid (hof.wf hfit.wf)
  have CL := Lib.hid (fun w (gg : w0.grownBy w none) => last_ok (h.grown gg) hle hcm (hrow.grown gg (by simp)) YW.out)
  have P1 : y.header.cells[1]? = some (.int .i64 (lastB c.store).header.height) := by rw [← hof.header]; rfl
  have hg := h.ok.goal q1
  have hlen := hm
  have hbig : m + 1 ≤ 100000 := by have := h.ok.room; omega
  by_cases q2 : n ≤ (lastB c.store).header.height
  ·have d2 : decide (n ≤ (lastB c.store).header.height) = true := decide_eq_true q2
   have E : c.goal n = (c, 153) := by unfold BcD.goal; rw [if_neg q1, if_pos q2]
   have HE := Lib.hid E; have H := Lib.hid h
   obtain ⟨A1, hA1⟩ : ∃ z, (lastB c.store).header.height = z := ⟨_, rfl⟩
   rw [hA1] at P1 d2
   replace P1 := Lib.hid P1
   clear q1 q2 E h hm hrow hof hin hfit hg hA1 hlen
   go_enter Tryz.func37, Tryz.ntmps37
   go_wp2_with fail
   refine (CL.out _ (gb_refl _)).mono ?_
   rintro e w ⟨rfl, g⟩
   go_wp2_with (first | ((with_reducible refine @wpList_at _ _ _ _ _ _ _ (.field 31 (.tmp 15) 0) rfl ?_); refine wpList_field_part 31 (.tmp 15) 0 rfl y.cells rfl _ Tryz.underlying31 25 0 rfl _ Tryz.underlying25 rfl y.header.cells (sizeHeader _ (y.header.cells_length YW.out.header)) (LtR.hdr_field YW.out) rfl ?_) | ((with_reducible refine @wpList_at _ _ _ _ _ _ _ (.field 25 (.tmp 16) 1) rfl ?_); refine wpList_field_one 25 (.tmp 16) 1 rfl y.header.cells rfl _ Tryz.underlying25 3 1 rfl _ Tryz.underlying3 rfl _ P1.out rfl ?_))
   go_ret
   rw [HE.out]
   exact ⟨rfl, BcPost.same H.out g⟩
  ·have d2 : decide (n ≤ (lastB c.store).header.height) = false := decide_eq_false q2
   have hg := hg q2
   have CD := Lib.hid (fun w (gg : w0.grownBy w none) => drop_ok (h.grown gg))
   obtain ⟨c', hc'⟩ : ∃ x, (c.goal n).1 = x := ⟨_, rfl⟩
   have E : c.goal n = (c', 0) ∧ c' = { c with pend := [], want := n, fet := 0, frm := (c.store.length : Int) - 1 } := by
    rw [← hc']; unfold BcD.goal; rw [if_neg q1, if_neg q2]; exact ⟨rfl, rfl⟩
   rw [hc'] at hg
   have HE := Lib.hid E; have H := Lib.hid h; have HG := Lib.hid hg; have HM := Lib.hid hm
   obtain ⟨A1, hA1⟩ : ∃ z, (lastB c.store).header.height = z := ⟨_, rfl⟩
   rw [hA1] at P1 d2
   replace P1 := Lib.hid P1
   have ew := IntWalk.i64_in (m : Int) (by omega)
   clear q1 q2 E h hm hrow hof hin hfit hg hA1 hc' hlen
   go_enter Tryz.func37, Tryz.ntmps37
   go_wp2_with fail
   refine (CL.out _ (gb_refl _)).mono ?_
   rintro e w ⟨rfl, g⟩
   go_wp2_with (first | ((with_reducible refine @wpList_at _ _ _ _ _ _ _ (.field 31 (.tmp 15) 0) rfl ?_); refine wpList_field_part 31 (.tmp 15) 0 rfl y.cells rfl _ Tryz.underlying31 25 0 rfl _ Tryz.underlying25 rfl y.header.cells (sizeHeader _ (y.header.cells_length YW.out.header)) (LtR.hdr_field YW.out) rfl ?_) | ((with_reducible refine @wpList_at _ _ _ _ _ _ _ (.field 25 (.tmp 16) 1) rfl ?_); refine wpList_field_one 25 (.tmp 16) 1 rfl y.header.cells rfl _ Tryz.underlying25 3 1 rfl _ Tryz.underlying3 rfl _ P1.out rfl ?_))
   refine (CD.out _ g).mono ?_
   rintro e w2 ⟨rfl, r2, t2⟩
   have O := (OwF.start (fun b => b = p) w2).add r2.blk rfl (by simp)
   have R2 := Lib.hid r2; have T2 := Lib.hid ((Tch.of_grown (F := fun b => b = p) g).trans t2 (fun b hb _ => hb))
   clear g r2 t2
   go_wp2_with (first | ((with_reducible refine @wpList_at _ _ _ _ _ _ _ (.load 70 (.tmp 27)) rfl ?_); refine @wpList_of_cell _ _ _ _ _ _ _ _ _ _ 70 (.tmp 27) rfl O 0 p 3 rfl _ _ rfl _ rfl _ Tryz.underlying70 rfl rfl ?_) | ((with_reducible refine @wpList_at _ _ _ _ _ _ _ (.store 3 (.tmp 32) (.tmp 24)) rfl ?_); refine @wpList_of_store_cell _ _ _ _ _ _ _ _ _ _ 3 (.tmp 32) (.tmp 24) rfl O 0 p 5 rfl (.int .i64 n) rfl (by kernel_rfl) _ _ rfl (by show (5 : Nat) < 8; decide) rfl rfl ?_; clear O; intro w O; simp only [List.set_cons_zero] at O) | ((with_reducible refine @wpList_at _ _ _ _ _ _ _ (.store 3 (.tmp 34) (.const (.int .i64 0))) rfl ?_); refine @wpList_of_store_cell _ _ _ _ _ _ _ _ _ _ 3 (.tmp 34) (.const (.int .i64 0)) rfl O 0 p 6 rfl (.int .i64 0) rfl (by kernel_rfl) _ _ rfl (by show (6 : Nat) < 8; decide) rfl rfl ?_; clear O; intro w O; simp only [List.set_cons_zero] at O) | ((with_reducible refine @wpList_at _ _ _ _ _ _ _ (.store 3 (.tmp 36) (.tmp 30)) rfl ?_); refine @wpList_of_store_cell _ _ _ _ _ _ _ _ _ _ 3 (.tmp 36) (.tmp 30) rfl O 0 p 7 rfl (.int .i64 (m : Int)) rfl (by kernel_rfl) _ _ rfl (by show (7 : Nat) < 8; decide) rfl rfl ?_; clear O; intro w O; simp only [List.set_cons_zero] at O))
   go_ret
   obtain ⟨e1, e2⟩ := HE.out
   rw [e1]
   have e3 : bcCells c' (.slice (some ⟨gs, os, none⟩) (m + 1) cs) (.slice none 0 0) = bcCells { c with pend := [], want := n, fet := 0, frm := (m : Int) } (.slice (some ⟨gs, os, none⟩) (m + 1) cs) (.slice none 0 0) := by
    rw [e2, HM.out, show (((m + 1 : Nat) : Int) - 1) = (m : Int) by omega]
   refine ⟨rfl, BcPost.own (R2.out.put O.tch (by rw [e3]; exact O.at_ 0 rfl) (by rw [e2]; rfl) (.inl ⟨rfl, by rw [e2]; rfl⟩) HG.out) (T2.out.trans O.tch (fun b hb _ => hb)) (.inr rfl)⟩
section
variable {T : TypeId} {I I' : Nat → Prop} {w u w' : World} {p z : Nat} {sv pv pv' : Value} {c c' : BcD} {l : LightD}
theorem BcRep.pushP (h : BcRep T I w p sv pv c) (h1 : ∀ b, I b → I' b) (h2 : ∀ b, I' b → I b ∨ w.heap.size ≤ b) (h3 : ∀ b, I' b → b < z) (hz : w.heap.size ≤ z) (hu : z ≤ u.heap.size) (t1 : Tch (fun b => pv.ownBlock = some b) w u) (t2 : Tch (fun b => b = p) u w') (hL : LRow I' u pv' (c.pend ++ [l]))
  (ho : pv'.ownBlock = pv.ownBlock ∨ ∃ b, pv'.ownBlock = some b ∧ z ≤ b) (hb : Blk w' p (bcCells c' sv pv') T) (hs : c'.store = c.store) (hp : c'.pend = c.pend ++ [l]) (ok : c'.ok) : BcRep T I' w' p sv pv' c' := by
 have hpl := h.blk.lt
 have hI : ∀ b, I' b → b ≠ p ∧ sv.ownBlock ≠ some b ∧ pv.ownBlock ≠ some b := fun b hb => by
  rcases h2 b hb with hb | hb
  ·exact (h.out b hb).2
  ·exact ⟨by omega, fun e => by have := h.store.lt e; omega, fun e => by have := h.pend.lt e; omega⟩
 have ownp : ∀ b, pv'.ownBlock = some b → b ≠ p ∧ sv.ownBlock ≠ some b ∧ ¬ I' b := fun b hb => by
  rcases ho with e | ⟨d, e, hd⟩
  ·rw [e] at hb
   exact ⟨fun e2 => h.pp (e2 ▸ hb), fun e2 => h.sp b e2 hb, fun hi => (hI b hi).2.2 hb⟩
  ·rw [hb] at e
   injection e with e
   subst e
   refine ⟨by omega, fun e2 => ?_, fun hi => ?_⟩
   ·have := h.store.lt e2; omega
   ·have := h3 b hi; omega
 refine ⟨hb, ?_, ?_, h.ps, fun e => (ownp p e).1 rfl, fun b hb e => (ownp b e).2.1 hb, fun b hb => ⟨Nat.lt_of_lt_of_le (h3 b hb) (Nat.le_trans hu t2.size), (hI b hb).1, (hI b hb).2.1, fun e => (ownp b e).2.2 hb⟩, ok⟩
 ·rw [hs]
  exact ((h.store.tch t1 (fun b hb e => h.sp b hb e) (fun b hb e => (h.out b hb).2.2.2 e)).tch t2 (fun b hb e => h.ps (e ▸ hb)) (fun b hb e => (h.out b hb).2.1 e)).mono h1
 ·rw [hp]
  exact hL.tch t2 (fun b hb e => (ownp b hb).1 e) (fun b hb e => (hI b hb).1 e)
def BcPostI (T : TypeId) (I : Nat → Prop) (w : World) (p : Nat) (sv pv : Value) (c : BcD) (w' : World) : Prop :=
 ∃ I' : Nat → Prop, (∀ b, I b → I' b) ∧ (∀ b, I' b → I b ∨ w.heap.size ≤ b) ∧ BcPost T I' w p sv pv c w'
theorem BcPost.toI (h : BcPost T I w p sv pv c w') : BcPostI T I w p sv pv c w' := ⟨I, fun _ h => h, fun _ h => .inl h, h⟩
end
theorem firstB_at {l : List LightD} (h : l ≠ []) : ∃ hl : 0 < l.length, l[0] = firstB l := by
 cases l with
 | nil => exact absurd rfl h
 | cons x l => exact ⟨by simp, rfl⟩
theorem BcD.ok.fetched {c : BcD} (h : c.ok) (hf : c.fet ≠ 200) : ({ c with fet := c.fet + 1 } : BcD).ok := ⟨h.o, h.some, h.want, by have := h.fet; dsimp only; omega, h.frm, h.room, h.height⟩
theorem BcD.ok.pushed {c : BcD} (h : c.ok) (l : LightD) (hr : c.store.length + c.pend.length + 1 ≤ 100000) : ({ c with pend := c.pend ++ [l] } : BcD).ok := ⟨h.o, h.some, h.want, h.fet, h.frm, by simp; omega, h.height⟩
theorem give_refused {c : BcD} {l : LightD} {now : Nat} (h : c.want = 0 ∨ l.header.height ≠ c.want ∨ l.header.chain ≠ (firstB c.store).header.chain) : c.give l now = (c, 161) := by unfold BcD.give; rw [if_pos h]
set_option maxHeartbeats 8000000 in
theorem Give_ok {I : Nat → Prop} {w0 : World} {p : Nat} {sv pv : Value} {c : BcD} (h : BcRep 125 I w0 p sv pv c) (x : LtR) (l : LightD) (hof : x.of w0.heap.size w0 l) (hfit : l.fit) (X : Nat → Prop) (hin : x.inn X) (hX : ∀ b, X b → ¬ Foot p sv pv b) (now : Nat) (hnow : now < 18446744073709551616) (hR : RowAt w0 1 0 (wCells rootsL)) (hIR : I 1) (hroom : c.store.length + c.pend.length + 1 ≤ 100000) :
  Calls Tryz.prog 40 #[.pointer (some ⟨p, 0, none⟩), .agg x.cells.toArray, .float .f64 now] w0 fun e w' => e = .returned (.int .i64 (c.give l now).2) ∧ BcPostI 125 I w0 p sv pv (c.give l now).1 w' := by
 have XW := Lib.hid (hof.wf hfit.wf)
 obtain ⟨h0, hfst⟩ := firstB_at h.ok.some
 obtain ⟨g, o, cs, y, hsv, hle, hcm, _, hrow, hyo, _, _⟩ := h.store.get 0 h0
 rw [hfst] at hyo
 rw [Nat.zero_mul, Nat.add_zero] at hrow
 have r0 : w0.cell? ⟨g, o, none⟩ = some (.string (firstB c.store).header.chain) := by
  have := hrow 0 (.string y.header.chain) rfl
  rw [Nat.add_zero] at this
  rw [← hyo.header]; exact this
 have cW := (h.blk.cellr (bc_get _ _ _).2.2.1).at_one
 have cS := (h.blk.cellr (bc_get _ _ _).1).at_one
 rw [hsv] at cS
 have B0 : x.cells[0]? = some (.string l.header.chain) := by rw [← hof.header]; rfl
 have B1 : x.cells[1]? = some (.int .i64 l.header.height) := by rw [← hof.header]; rfl
 have H := Lib.hid h; have HSV := Lib.hid hsv
 have hrf := give_refused (c := c) (l := l) (now := now)
 obtain ⟨W, hW⟩ : ∃ z, c.want = z := ⟨_, rfl⟩
 obtain ⟨HL, hHL⟩ : ∃ z, l.header.height = z := ⟨_, rfl⟩
 obtain ⟨C1, hC1⟩ : ∃ z, l.header.chain = z := ⟨_, rfl⟩
 obtain ⟨C0, hC0⟩ : ∃ z, (firstB c.store).header.chain = z := ⟨_, rfl⟩
 rw [hW] at cW; rw [hHL] at B1; rw [hC1] at B0; rw [hC0] at r0
 rw [hW, hHL, hC1, hC0] at hrf
 obtain ⟨n, hn⟩ : ∃ n, c.store.length = n := ⟨_, rfl⟩
 rw [hn] at h0 cS hle
 unfold maxLen at hcm
 have hgl := (World.block_lt_of_cell? _ _ r0); have hpl := (World.block_lt_of_cell? _ _ cW)
 dsimp only at hgl hpl
 have HCX := Lib.hid (show RowAt w0 g o [.string C0] ∧ RowAt w0 p 5 [.int .i64 W] ∧ RowAt w0 p 3 [.slice (some ⟨g, o, none⟩) n cs] from ⟨RowAt.one r0, RowAt.one cW, RowAt.one cS⟩)
 have HIN := Lib.hid hin; have HXF := Lib.hid hX; have H6 := Lib.hid (h.blk.cellr (bc_get _ _ _).2.2.2.1); have HOK := Lib.hid h.ok
 have HOF := Lib.hid hof; have HFI := Lib.hid hfit; have HNW := Lib.hid hnow; have HRO := Lib.hid hR; have HRM := Lib.hid hroom; have HIRR := Lib.hid hIR
 have HLT := Lib.hid (show c.want = W ∧ l.header.height = HL ∧ l.header.chain = C1 ∧ (firstB c.store).header.chain = C0 from ⟨hW, hHL, hC1, hC0⟩)
 replace hrf := Lib.hid hrf; replace B0 := Lib.hid B0; replace B1 := Lib.hid B1
 have O := OwF.start (fun _ => False) w0
 clear h hof hfit hin hX hnow hR hroom hIR hsv hrow hyo hfst hW hHL hC1 hC0 hn r0 cW cS
 go_enter Tryz.func40, Tryz.ntmps40
 go_upto_region 3 with (first | ((with_reducible refine @wpList_at _ _ _ _ _ _ _ (.box 31 (.tmp 1)) rfl ?_); refine @wpList_of_box _ _ _ _ _ _ _ _ _ _ 31 (.tmp 1) rfl x.cells rfl O rfl ?_; clear O; intro bl w O))
 have r0 := (HCX.out.1.grown (O.tch.grown (fun _ h => h.elim)) (by simp)).at_one; have cW := (HCX.out.2.1.grown (O.tch.grown (fun _ h => h.elim)) (by simp)).at_one; have cS := (HCX.out.2.2.grown (O.tch.grown (fun _ h => h.elim)) (by simp)).at_one
 have b0 := (O.at_ 0 rfl).row 0 _ B0.out; have b1 := (O.at_ 0 rfl).row 1 _ B1.out
 rw [Nat.zero_add] at b0 b1
 have HO := Lib.hid O
 clear O
 by_cases q1 : W = 0
 ·have d1 : (W == 0) = true := by simpa using q1
  have HE := Lib.hid (hrf.out (.inl q1))
  clear q1
  go_quiet (fail)
  go_wp2_with fail
  go_ret
  rw [HE.out]
  exact ⟨rfl, (BcPost.same H.out ((HO.out.drewN nq).tch.grown (fun _ h => h.elim))).toI⟩
 have d1 : (W == 0) = false := by simpa using q1
 by_cases q2 : HL = W
 case neg =>
  have d2 : (HL != W) = true := by simpa using q2
  have HE := Lib.hid (hrf.out (.inr (.inl q2)))
  clear q1 q2
  go_quiet (fail)
  go_wp2_with fail
  go_ret
  rw [HE.out]
  exact ⟨rfl, (BcPost.same H.out ((HO.out.drewN nq).tch.grown (fun _ h => h.elim))).toI⟩
 have d2 : (HL != W) = false := by simpa using q2
 by_cases q3 : C1 = C0
 case neg =>
  have d3 := str_ne q3
  have HE := Lib.hid (hrf.out (.inr (.inr q3)))
  clear q1 q2
  go_quiet (fail)
  go_wp2_with fail
  go_ret
  rw [HE.out]
  exact ⟨rfl, (BcPost.same H.out ((HO.out.drewN nq).tch.grown (fun _ h => h.elim))).toI⟩
 have HQ := Lib.hid (show ¬ (c.want = 0 ∨ l.header.height ≠ c.want ∨ l.header.chain ≠ (firstB c.store).header.chain) by obtain ⟨k1, k2, k3, k4⟩ := HLT.out; rw [k1, k2, k3, k4]; simp [q1, q2, q3])
 subst q3
 clear q1 q2
 go_quiet (fail)
 clear r0 cW cS b0 b1
 have O := HO.out.drewN nq
 obtain ⟨F, hF⟩ : ∃ z, c.fet = z := ⟨_, rfl⟩
 have HFE := Lib.hid hF
 rw [hF] at H6
 clear hF HO
 by_cases q4 : F = 200
 ·have HE := Lib.hid (show c.give l now = (c.drop, 162) by unfold BcD.give; rw [if_neg HQ.out, if_pos (HFE.out.trans q4)])
  subst q4
  have CD := Lib.hid (fun w (gg : w0.grownBy w none) => drop_ok (H.out.grown gg))
  have G9 := O.tch.grown (fun _ h => h.elim)
  have c6 := (H6.out.grown G9 (by simp)).at_one
  have HG9 := Lib.hid G9
  clear G9
  go_wp2_with fail
  refine (CD.out _ HG9.out).mono ?_
  rintro e w2 ⟨rfl, r2, t2⟩
  go_wp2_with fail
  go_ret
  rw [HE.out]
  exact ⟨rfl, (BcPost.own r2 ((Tch.of_grown HG9.out).trans t2 (fun b hb _ => hb)) (.inr rfl)).toI⟩
 ·have d4 : (F == 200) = false := by simpa using q4
  have HE := Lib.hid (show c.give l now = BcD.climb now (c.pend.length + 1) { c with fet := c.fet + 1, pend := c.pend ++ [l] } by unfold BcD.give; rw [if_neg HQ.out, if_neg (fun e => q4 (HFE.out.symm.trans e))])
  have hfr := HOK.out.fet
  rw [HFE.out] at hfr
  have ew := IntWalk.i64_in (F + 1) (by omega)
  have HQF := Lib.hid q4
  have HBL := Lib.hid (show pv.ownBlock ≠ some bl from fun e => by have h1 := H.out.pend.lt e; have h2 := (O.lie 0 rfl).resolve_right id; omega)
  have O2 := O.join (F := fun b => b = p) H.out.blk rfl
  have P6 := Lib.hid (show (bcCells c sv pv)[6]? = some (.int .i64 F) by rw [← HFE.out]; rfl)
  clear O hfr
  go_upto_region 9 with (first | ((with_reducible refine @wpList_at _ _ _ _ _ _ _ (.load 3 (.tmp 43)) rfl ?_); refine @wpList_of_cell _ _ _ _ _ _ _ _ _ _ 3 (.tmp 43) rfl O2 0 p 6 rfl _ _ rfl _ P6.out _ Tryz.underlying3 rfl rfl ?_) | ((with_reducible refine @wpList_at _ _ _ _ _ _ _ (.load 3 (.tmp 50)) rfl ?_); refine @wpList_of_cell _ _ _ _ _ _ _ _ _ _ 3 (.tmp 50) rfl O2 0 p 6 rfl _ _ rfl _ P6.out _ Tryz.underlying3 rfl rfl ?_) | ((with_reducible refine @wpList_at _ _ _ _ _ _ _ (.store 3 (.tmp 54) (.tmp 52)) rfl ?_); refine @wpList_of_store_cell _ _ _ _ _ _ _ _ _ _ 3 (.tmp 54) (.tmp 52) rfl O2 0 p 6 rfl (.int .i64 (F + 1)) rfl (by kernel_rfl) _ _ rfl (by show (6 : Nat) < 8; decide) rfl rfl ?_; clear O2; intro w O2; simp only [List.set_cons_zero] at O2))
  have hb1 := O2.at_ 0 rfl
  have r1 : BcRep 125 I w p sv pv { c with fet := c.fet + 1 } := H.out.put O2.tch (by rw [← HFE.out] at hb1; exact hb1) rfl (.inl ⟨rfl, rfl⟩) (HOK.out.fetched (fun e => q4 (HFE.out.symm.trans e)))
  have hofw : x.of w.heap.size w l := (HOF.out.tch O2.tch HIN.out (fun b hb e => HXF.out b hb (.inl e))).mono O2.tch.size
  have R1 := Lib.hid r1; have TA := Lib.hid O2.tch; have FB := Lib.hid (O2.at_ 1 rfl).row; have F4 := Lib.hid (r1.blk.cellr (bc_get _ _ _).2.1)
  have CC1 := Lib.hid (fun u (g : w.grownBy u none) => copied_ok x l u HFI.out (hofw.up g (Nat.le_refl _)))
  have hrow := O2.tch.row HRO.out (fun e => (H.out.out _ HIRR.out).2.1 e)
  have HRW := Lib.hid hrow
  have O := OwF.start (fun _ => False) w
  clear q4 d4 ew O2 hb1 r1 hofw hrow d1 d2
  replace O := O.drew
  refine wp_region_J (rdf [(4, p, 4, [pv]), (5, bl, 0, x.cells)]) [6, 7, 8, 11] (by kernel_rfl) (RdA.cons (F4.out.grown (O.tch.grown (fun _ h => h.elim)) (by simp)) (RdA.cons (FB.out.grown (O.tch.grown (fun _ h => h.elim)) (by simp)) RdA.nil)) (fun hH => ?_)
  refine jp 0 ((.pointer (some ⟨p, 0, none⟩))) (Still.all hH) ?_
  simp only [Act.put, jq1, jq3, jq4, jq5, jq6]
  refine jp 1 ((.pointer (some ⟨p, 0, none⟩))) (Still.all hH) ?_
  simp only [Act.put, jq1, jq2, jq3, jq4, jq5, jq6]
  refine jp 2 ((.pointer (some ⟨p, 0, none⟩))) (Still.all hH) ?_
  simp only [Act.put, jq1, jq2, jq3, jq4, jq5, jq6]
  refine jp 3 ((.pointer (some ⟨p, 4, none⟩))) (Still.all hH) ?_
  simp only [Act.put, jq1, jq2, jq3, jq4, jq5, jq6]
  refine jr 0 4 (pv) rfl rfl (yields_cell (by rfl) 70 _ rfl p 4 rfl pv _ (fun W h => h) Tryz.underlying70 rfl) (Still.all hH) ?_
  simp only [Act.put, jq1, jq2, jq3, jq4, jq5, jq6]
  refine jr 1 5 ((.agg (x.cells).toArray)) rfl rfl (yieldsIf_load_mid (by rfl) 31 _ rfl bl 0 rfl x.cells _ (fun W h => h) Tryz.underlying31 rfl (sizeLt _ XW.out)) (Still.all hH) ?_
  simp only [Act.put, jq1, jq2, jq3, jq4, jq5, jq6]
  refine wpAnyJ_ready (rs := [6]) (by kernel_rfl) (by simp) ?_
  refine AllJ.keep rfl (by rfl) (by rfl) (fun K hK => ?_) (AllJ.nil)
  refine wp_call 73 _ _ (by rfl) (enters Tryz.func73 (by kernel_rfl) rfl) (by rfl) (CC1.out _ (O.tch.grown (fun _ h => h.elim))) ?_
  rintro e u1 ⟨y, rfl, hy, iy, g1⟩
  refine ⟨_, rfl, ?_⟩
  replace O := O.call g1
  have YW := Lib.hid (hy.wf HFI.out.wf)
  have hz1 : w.heap.size ≤ u1.heap.size := O.tch.size
  obtain ⟨I', hI'⟩ : ∃ J : Nat → Prop, (fun b => I b ∨ (w.heap.size ≤ b ∧ b < u1.heap.size)) = J := ⟨_, rfl⟩
  have hI1 : ∀ b, I b → I' b := fun b hb => by rw [← hI']; exact .inl hb
  have hI2 : ∀ b, I' b → I b ∨ (w.heap.size ≤ b ∧ b < u1.heap.size) := fun b hb => by rw [← hI'] at hb; exact hb
  have iy2 : y.inn I' := iy.mono (fun b hb => by rw [← hI']; exact .inr hb)
  clear hI' iy
  simp only [Act.put, jq1, jq2, jq3, jq4, jq5, jq6]
  refine hK.out _ _ (RdA.grown hH g1) ?_
  replace hH := RdA.grown hH g1
  clear hK K
  refine wpAnyJ_ready (rs := [7]) (by kernel_rfl) (by simp) ?_
  refine AllJ.keep rfl (by rfl) (by rfl) (fun K hK => ?_) (AllJ.nil)
  refine wp_of_slice1 70 _ rfl y.cells rfl 31 _ 200 Tryz.underlying70 light_inf2 (y.cells_length YW.out) (by decide) O ?_
  clear O
  intro b8 u g2 O
  simp only [Act.put, jq1, jq2, jq3, jq4, jq5, jq6]
  refine hK.out _ _ (RdA.grown hH g2) ?_
  replace hH := RdA.grown hH g2
  clear hK K
  refine wpAnyJ_ready (rs := [8]) (by kernel_rfl) (by simp) ?_
  refine AllJ.keep rfl (by rfl) (by rfl) (fun K hK => ?_) (AllJ.nil)
  have hd : ∀ b, I' b → pv.ownBlock ≠ some b := fun b hb e => by rcases hI2 b hb with hb | hb; exact (R1.out.out b hb).2.2.2 e; have := R1.out.pend.lt e; omega
  refine wp_of_appL _ _ rfl ((R1.out.grown (O.tch.grown (fun _ h => h.elim))).pend.mono (J := I') hI1) (hy.up g2 (Nat.le_refl _)) iy2 HFI.out hd (by have := HRM.out; dsimp only; omega) rfl b8 rfl (O.row_of (g := b8) (T := 31) (by simp)) ?_
  intro a9 n9 c9 u9 hL t9 o9
  have hz2 : u1.heap.size ≤ u9.heap.size := Nat.le_trans g2.size t9.size
  have hz3 : ∀ b, I' b → b < u1.heap.size := fun b hb => by rcases hI2 b hb with hb | hb; have := (R1.out.out b hb).1; omega; exact hb.2
  have o10 : (Value.slice a9 n9 c9).ownBlock = pv.ownBlock ∨ ∃ b, (Value.slice a9 n9 c9).ownBlock = some b ∧ u1.heap.size ≤ b := o9.elim .inl (fun ⟨b, e, hb⟩ => .inr ⟨b, e, Nat.le_trans g2.size hb⟩)
  have t10 := (O.tch.mono (G := fun b => pv.ownBlock = some b) (fun _ h _ => h.elim)).trans t9 (fun b hb _ => hb)
  have hH9 := RdA.tch hH t9 (by intro e he; simp only [List.mem_cons, List.not_mem_nil, or_false] at he; rcases he with rfl | rfl; exact R1.out.pp; exact HBL.out)
  have OQ := (OwF.start (fun b => b = p) u9).add (t10.blk R1.out.blk R1.out.pp) rfl (by simp)
  clear O
  simp only [Act.put, jq1, jq2, jq3, jq4, jq5, jq6]
  refine hK.out _ _ hH9 ?_
  replace hH := hH9
  clear hK K hH9
  refine jp 9 ((.pointer (some ⟨p, 0, none⟩))) (Still.all hH) ?_
  simp only [Act.put, jq1, jq2, jq3, jq4, jq5, jq6]
  refine jp 10 ((.pointer (some ⟨p, 4, none⟩))) (Still.all hH) ?_
  simp only [Act.put, jq1, jq2, jq3, jq4, jq5, jq6]
  refine wpAnyJ_ready (rs := [11]) (by kernel_rfl) (by simp) ?_
  refine AllJ.turn rfl (by rfl) (by rfl) (fun K hK => ?_) (AllJ.nil)
  refine wp_of_store_cell 70 _ _ rfl OQ 0 p 4 rfl (.slice a9 n9 c9) rfl (by kernel_rfl) _ _ rfl (by show (4 : Nat) < 8; decide) rfl ?_
  clear OQ
  intro w OQ
  simp only [List.set_cons_zero] at OQ
  simp only [Act.put, jq1]
  refine hK.out _ _ (waits_all (by kernel_rfl)) ?_
  clear hK K hH
  refine wpAnyJ_done (by kernel_rfl) ?_ _
  have tA := TA.out; have tB := t10; have tC := OQ.tch
  have r3 : BcRep 125 I' w p sv (.slice a9 n9 c9) { c with fet := c.fet + 1, pend := c.pend ++ [l] } :=
   R1.out.pushP hI1 (fun b hb => (hI2 b hb).elim .inl (fun hb => .inr hb.1)) hz3 hz1 hz2 tB tC hL o10 (OQ.at_ 0 rfl) rfl rfl ((HOK.out.fetched (fun e => by have h := HFE.out.symm.trans e; exact HQF.out h)).pushed l HRM.out)
  have hro : RowAt w 1 0 (wCells rootsL) := tC.row (tB.row HRW.out (fun e => (H.out.out _ HIRR.out).2.2.2 e)) (fun e => (H.out.out _ HIRR.out).2.1 e)
  have hlen : ({ c with fet := c.fet + 1, pend := c.pend ++ [l] } : BcD).pend.length = c.pend.length + 1 := by simp
  have CK := climb_ok2 r3 now HNW.out hro (hI1 _ HIRR.out)
  rw [hlen, ← HE.out] at CK
  replace CK := Lib.hid CK
  have TT : Tch (Foot p sv pv) w0 w := (tA.mono (fun b hb _ => (.inl hb : Foot p sv pv b))).trans ((tB.mono (fun b hb _ => (.inr (.inr hb) : Foot p sv pv b))).trans tC (fun b hb _ => .inl hb)) (fun b hb _ => hb)
  have zz : w0.heap.size ≤ u1.heap.size := Nat.le_trans tA.size hz1
  have HT := Lib.hid TT; have HZ := Lib.hid zz
  have HO1 := Lib.hid o10; have HZ1 := Lib.hid (Nat.le_trans zz (Nat.le_trans hz2 tC.size))
  have HI1 := Lib.hid (show ∀ b, I' b → I b ∨ w0.heap.size ≤ b from fun b hb => (hI2 b hb).elim .inl (fun hb => .inr (Nat.le_trans tA.size hb.1)))
  have HII := Lib.hid hI1
  clear tA tB tC r3 hro hlen TT zz OQ t9 t10 o9 o10 hL hz1 hz2 hz3
  go_wp2_with fail
  refine CK.out.mono ?_
  rintro e w2 ⟨rfl, sv', pv', r4, t4, f4⟩
  go_wp2_with fail
  go_ret
  have ff : ∀ b, Foot p sv (.slice a9 n9 c9) b → Foot p sv pv b ∨ w0.heap.size ≤ b := fun b hb => by
   rcases hb with hb | hb | hb
   ·exact .inl (.inl hb)
   ·exact .inl (.inr (.inl hb))
   ·rcases HO1.out with e | ⟨d, e, hd⟩
    ·exact .inl (.inr (.inr (e ▸ hb)))
    ·rw [hb] at e
     injection e with e
     subst e
     exact .inr (Nat.le_trans HZ.out hd)
  exact ⟨rfl, I', HII.out, HI1.out, sv', pv', r4, HT.out.trans t4 (fun b hb hl => (ff b hb).resolve_right (by omega)), fun b hb => (f4 b hb).elim (ff b) (fun h => .inr (Nat.le_trans HZ1.out h))⟩
open Go.RowKit Go.Shelf
theorem wpList_of_appL {ops : Array Oper} {rest : List Oper} {o : Oper} {a : Act} {w : World} {Q : Exit → Act → World → Prop} {I : Nat → Prop} {v : Value} {ls : List LightD} {l : LightD} (s y : Operand) (ho : o.op = .call { callee := .builtin .append, args := #[s, y], argTypes := #[70, 70] })
  (h : LRow I w v ls) {x : LtR} (hx : x.of w.heap.size w l) (hi : x.inn I) (hf : l.fit) (dis : ∀ b, I b → v.ownBlock ≠ some b) (hn : ls.length ≤ 1000000) (hs : a.eval s = v) (g : Nat) (hy : a.eval y = .slice (some ⟨g, 0, none⟩) 1 1) (hr : RowAt w g 0 x.cells) (hgd : Region.wanted o (yielded ops a.tmps) = true)
  (k : ∀ a' n' c' w', LRow I w' (.slice a' n' c') (ls ++ [l]) → Tch (fun b => v.ownBlock = some b) w w' → ((Value.slice a' n' c').ownBlock = v.ownBlock ∨ ∃ b, (Value.slice a' n' c').ownBlock = some b ∧ w.heap.size ≤ b) → wpList Tryz.prog ops Q rest (a.put o.dst (.slice a' n' c')) w') : wpList Tryz.prog ops Q (o :: rest) a w :=
 wpList_wanted hgd fun _ hK => wp_of_appL s y ho h hx hi hf dis hn hs g hy hr fun a' n' c' w' h1 h2 h3 => hK _ _ (k a' n' c' w' h1 h2 h3)
def Copies (w : World) (ls : List LightD) (v : Value) (w' : World) : Prop := w.grownBy w' none ∧ ∃ J : Nat → Prop, (∀ b, J b → w.heap.size ≤ b ∧ b < w'.heap.size ∧ v.ownBlock ≠ some b) ∧ LRow J w' v ls ∧ ∀ b, v.ownBlock = some b → w.heap.size ≤ b
set_option maxHeartbeats 4000000 in
theorem all_ok {I : Nat → Prop} {v : Value} {ls : List LightD} (w0 : World) (h : LRow I w0 v ls) (hn : ls.length ≤ 100000) :
  Calls Tryz.prog 74 #[v] w0 fun e w' => ∃ a n c, e = .returned (.slice a n c) ∧ Copies w0 ls (.slice a n c) w' := by
 obtain ⟨va, vc, hv, hle, hcm⟩ := h.shape
 have H := Lib.hid h; have HV := Lib.hid hv
 unfold maxLen at hcm
 obtain ⟨n, hnn⟩ : ∃ n, ls.length = n := ⟨_, rfl⟩
 have HN := Lib.hid hnn
 rw [hnn] at hv hle hn
 subst hv
 clear h hnn
 go_enter Tryz.func74, Tryz.ntmps74
 go_wp2_with fail
 go_loopw [3, 8] (fun r i wr => ∃ (k : Nat) (ra : Option Addr) (rn rc : Nat) (J : Nat → Prop), k ≤ n ∧ i = .int .i64 k ∧ r = .slice ra rn rc ∧ (∀ b, J b → w0.heap.size ≤ b ∧ b < wr.heap.size ∧ (Value.slice ra rn rc).ownBlock ≠ some b) ∧ LRow J wr (.slice ra rn rc) (ls.take k) ∧ (∀ b, (Value.slice ra rn rc).ownBlock = some b → w0.heap.size ≤ b) ∧ w0.grownBy wr none) (fun _ i _ => n - (intOf i).toNat)
 case atStart => exact ⟨0, none, 0, 0, fun _ => False, Nat.zero_le _, rfl, rfl, fun _ h => h.elim, LRow.nil _ _, fun b h => (by cases h), gb_refl _⟩
 case round =>
  obtain ⟨k, ra, rn, rc, J, hk, rfl, rfl, hJ, hL, ho, hg⟩ := hrel
  have HJ := Lib.hid hJ; have HL := Lib.hid hL; have HO := Lib.hid ho; have HG := Lib.hid hg
  clear hJ hL ho hg
  by_cases hlt : k < n
  ·obtain ⟨g, o, cp, x, hv, _, _, hgl, hrow, hof, hin, hfit⟩ := (H.out.grown HG.out).get k (by rw [HN.out]; exact hlt)
   rw [HN.out] at hv
   injection hv with e1 e2 e3
   subst e1 e3
   have XW := Lib.hid (hof.wf hfit.wf); have FX := Lib.hid hrow; have HF := Lib.hid hfit
   have CX := Lib.hid (fun u (gg : wr.grownBy u none) => copied_ok x _ u hfit (hof.up gg (Nat.le_refl _)))
   have HT := Lib.hid (show ls.take (k + 1) = ls.take k ++ [ls[k]'(by rw [HN.out]; exact hlt)] by rw [List.take_add_one, List.getElem?_eq_getElem (by rw [HN.out]; exact hlt)]; rfl)
   have hkl : (ls.take k).length ≤ 1000000 := by rw [List.length_take]; omega
   have HKL := Lib.hid hkl
   have O := OwF.start (fun _ => False) wr
   clear hof hin hfit hrow e2 hkl
   go_wp2_with (first | ((with_reducible refine @wpList_at _ _ _ _ _ _ _ (.load 31 (.tmp 10)) rfl ?_); refine wpList_load_part rfl 31 _ rfl g (o + k * 200) rfl x.cells _ FX.out Tryz.underlying31 rfl (sizeLt _ XW.out) ?_) | ((with_reducible refine @wpList_at _ _ _ _ _ _ _ (.alloc 31) rfl ?_); refine @wpList_of_alloc _ _ _ _ _ _ _ _ _ _ 31 rfl ZLt0 ZLt0_info O rfl ?_; clear O; intro bo w O) | ((with_reducible refine @wpList_at _ _ _ _ _ _ _ (.store 31 (.tmp 5) (.tmp 11)) rfl ?_); refine @wpList_of_store _ _ _ _ _ _ _ _ _ _ 31 (.tmp 5) (.tmp 11) rfl O 0 bo rfl x.cells ZLt0 _ rfl rfl (LtR.cells_length _ XW.out) (LtR_one _) (sizeLt _ XW.out) rfl ?_; clear O; intro w O; simp only [List.set_cons_zero] at O) | ((with_reducible refine @wpList_at _ _ _ _ _ _ _ (.load 31 (.tmp 5)) rfl ?_); refine @wpList_of_whole _ _ _ _ _ _ _ _ _ _ 31 (.tmp 5) rfl O 0 bo rfl x.cells _ rfl _ Tryz.underlying31 rfl (sizeLt _ XW.out) rfl ?_))
   have z0 : wr.heap.size ≤ w.heap.size := O.tch.size
   refine (CX.out _ (O.tch.grown (fun _ h => h.elim))).mono ?_
   rintro e u1 ⟨y, rfl, hy, iy, g1⟩
   replace O := O.call g1
   have YW := Lib.hid (hy.wf HF.out.wf)
   have z1 : w.heap.size ≤ u1.heap.size := g1.size
   have hrl : ∀ b, (Value.slice ra rn rc).ownBlock = some b → b < wr.heap.size := fun b hb => HL.out.lt hb
   obtain ⟨J', hJ1, hJ2, iy2⟩ : ∃ J' : Nat → Prop, (∀ b, J b → J' b) ∧ (∀ b, J' b → J b ∨ (w.heap.size ≤ b ∧ b < u1.heap.size)) ∧ y.inn J' := ⟨fun b => J b ∨ (w.heap.size ≤ b ∧ b < u1.heap.size), fun b h => .inl h, fun b h => h, iy.mono (fun b h => .inr h)⟩
   have hdis : ∀ b, J' b → (Value.slice ra rn rc).ownBlock ≠ some b := fun b hb e => by
    rcases hJ2 b hb with hb | hb
    ·exact (HJ.out b hb).2.2 e
    ·have := hrl b e; omega
   have G1 := Lib.hid (O.tch.grown (fun _ h => h.elim))
   have HY := Lib.hid hy; have HI := Lib.hid iy2; have HD := Lib.hid hdis; have HZ := Lib.hid (show wr.heap.size ≤ w.heap.size ∧ w.heap.size ≤ u1.heap.size from ⟨z0, z1⟩); have HRL := Lib.hid hrl; have HJ1 := Lib.hid hJ1; have HJ2 := Lib.hid hJ2
   clear O hy iy g1 z0 z1 iy2 hdis hrl hJ1 hJ2
   have O := OwF.start (fun _ => False) u1
   go_wp2_with (first | ((with_reducible refine @wpList_at _ _ _ _ _ _ _ (.buildSlice 70 1 #[(0, (.tmp 14))]) rfl ?_); refine @wpList_of_slice1 _ _ _ _ _ _ _ _ _ _ 70 (.tmp 14) rfl y.cells rfl 31 _ 200 Tryz.underlying70 light_inf2 (y.cells_length YW.out) (by decide) O rfl ?_; clear O; intro b8 u2 O) | ((with_reducible refine @wpList_at _ _ _ _ _ _ _ (.call { callee := .builtin .append, args := #[.tmp 12, .tmp 15], argTypes := #[70, 70] }) rfl ?_); refine wpList_of_appL (.tmp 12) (.tmp 15) rfl (((HL.out.grown G1.out).grown (O.tch.grown (fun _ h => h.elim))).mono HJ1.out) (HY.out.up (O.tch.grown (fun _ h => h.elim)) (Nat.le_refl _)) HI.out HF.out HD.out HKL.out rfl b8 rfl (O.row_of (g := b8) (T := 31) (by simp)) rfl ?_; intro a9 n9 c9 u9 hL t9 o9))
   have z8 := HZ.out; have z9 := O.tch.size; have z10 := t9.size
   have hg9 : w0.grownBy u9 none := ((Tch.of_grown (F := fun _ => False) (Lib.grownBy_trans HG.out (Lib.grownBy_trans G1.out (O.tch.grown (fun _ h => h.elim))))).trans t9 (fun b hb hl => absurd (HO.out b hb) (by omega))).grown (fun _ h => h.elim)
   refine ⟨⟨k + 1, a9, n9, c9, J', by omega, by go_num, rfl, fun b hb => ?_, by rw [HT.out]; exact hL, fun b hb => ?_, hg9⟩, by simp [intOf]; omega⟩
   ·have hlow : w0.heap.size ≤ b ∧ b < u1.heap.size := by
     rcases HJ2.out b hb with h | h
     ·have h2 := HJ.out b h; exact ⟨h2.1, by omega⟩
     ·have h2 := HG.out.size; exact ⟨by omega, h.2⟩
    refine ⟨hlow.1, by omega, fun e => ?_⟩
    rcases o9 with e2 | ⟨d, e2, hd⟩
    ·exact HD.out b hb (e2 ▸ e)
    ·rw [e] at e2
     injection e2 with e2
     omega
   ·rcases o9 with e2 | ⟨d, e2, hd⟩
    ·exact HO.out b (e2 ▸ hb)
    ·rw [hb] at e2
     injection e2 with e2
     have h2 := HG.out.size
     omega
  ·obtain rfl : n = k := by omega
   go_wp2_with fail
   go_ret
   have h := HL.out
   rw [List.take_of_length_le (by rw [HN.out]; exact Nat.le_refl _)] at h
   exact ⟨ra, rn, rc, rfl, HG.out, J, HJ.out, h, HO.out⟩
def cloneLRen : Go.Shelf.Ren := ⟨fun | 41 => 81 | n => n, fun | 4 => 4 | 3 => 3 | 22 => 70 | 23 => 31 | n => n, fun | n => n⟩
theorem cloneLLays : SlLaysE0.n41 Tryz.prog cloneLRen := {
 mixed := by kernel_rfl
 f41 := ⟨Tryz.f81.name, by decide +kernel, Tryz.func81.trans (congrArg some (by kernel_rfl))⟩
 t4 := Tryz.underlying4
 a4 := Tryz.isAgg4
 z4 := Tryz.sizeOf4
 v4 := Tryz.zeroValue4
 t22 := Tryz.underlying70
 a22 := Tryz.isAgg70
 z22 := Tryz.sizeOf70
 v22 := Tryz.zeroValue70 }
noncomputable def lightI : TypeInfo := (Tryz.prog.info? 31).get (by kernel_rfl)
theorem ltsCells_one (xs : List LtR) : ∀ u ∈ ltsCells xs, u.oneCell' = true := by
 intro u hu
 obtain ⟨d, _, hd⟩ := List.mem_flatMap.1 hu
 exact LtR_one d u hd
theorem cloneLights {I : Nat → Prop} {a : Option Addr} {n c : Nat} {ls : List LightD} (w0 : World) (h : LRow I w0 (.slice a n c) ls) (hp : 0 < ls.length) (hn : ls.length ≤ 100000) :
  Calls Tryz.prog 81 #[.slice a n c] w0 fun e w' => ∃ a' m c', e = .returned (.slice a' m c') ∧ LRow I w' (.slice a' m c') ls ∧ (∀ b, (Value.slice a' m c').ownBlock = some b → w0.heap.size ≤ b) ∧ w0.grownBy w' none := by
 obtain ⟨xs, a1, a2, a3⟩ := h
 obtain ⟨g, o, cp, hv, h1, h2, _, h3⟩ := a1.at_ (by omega)
 injection hv with e1 e2 e3
 subst e1 e2 e3
 refine (AnyE.slices_Clone cloneLLays lightI (.agg ZLt0.toArray) 200 312 (by kernel_rfl) (by kernel_rfl) (by kernel_rfl) (by kernel_rfl) zlt_size (by decide) Tryz.sizeOf31 g o xs.length c (ltsCells xs) w0 a1.len (Nat.le_trans h1 h2) (by omega) (fun j u hj => h3 j u hj) (ltsCells_one xs)).mono ?_
 rintro e w' ⟨v', rfl, ho, _, hb⟩
 have hg : w0.grownBy w' none := ⟨hb.os, hb.tape, hb.output, hb.size, fun k hk _ => hb.block k hk⟩
 have hs := SRow.of_owns ho
 obtain ⟨a', c', rfl, _⟩ := hs.shape
 exact ⟨a', _, c', rfl, ⟨xs, hs, a2, fun i y m hy hm => by obtain ⟨b1, b2, b3⟩ := a3 i y m hy hm; exact ⟨b1.up hg (Nat.le_refl _), b2, b3⟩⟩, fun b hb => (ho.lt b hb).1, hg⟩
section
variable {I : Nat → Prop} {w0 : World} {p : Nat} {sv pv : Value} {c : BcD}
set_option maxHeartbeats 1000000 in
theorem Want_ok (h : BcRep 125 I w0 p sv pv c) : Calls Tryz.prog 39 #[.pointer (some ⟨p, 0, none⟩)] w0 fun e w' => e = .returned (.int .i64 c.want) ∧ w0.grownBy w' none := by
 have c5 := (h.blk.cellr (bc_get _ _ _).2.2.1).at_one
 clear h
 go_enter Tryz.func39, Tryz.ntmps39
 go_wp2
 go_ret
 exact ⟨rfl, gb_refl _⟩
set_option maxHeartbeats 1000000 in
theorem Fetches_ok (h : BcRep 125 I w0 p sv pv c) : Calls Tryz.prog 42 #[.pointer (some ⟨p, 0, none⟩)] w0 fun e w' => e = .returned (.int .i64 c.fet) ∧ w0.grownBy w' none := by
 have c5 := (h.blk.cellr (bc_get _ _ _).2.2.2.1).at_one
 clear h
 go_enter Tryz.func42, Tryz.ntmps42
 go_wp2
 go_ret
 exact ⟨rfl, gb_refl _⟩
set_option maxHeartbeats 2000000 in
theorem Store_ok (h : BcRep 125 I w0 p sv pv c) : Calls Tryz.prog 36 #[.pointer (some ⟨p, 0, none⟩)] w0 fun e w' => ∃ a n k, e = .returned (.slice a n k) ∧ Copies w0 c.store (.slice a n k) w' := by
 have c3 := (h.blk.cellr (bc_get _ _ _).1).at_one
 have CA := Lib.hid (all_ok w0 h.store (by have := h.ok.room; omega))
 obtain ⟨va, vc, hv, _⟩ := h.store.shape
 subst hv
 clear h
 go_enter Tryz.func36, Tryz.ntmps36
 go_wp2_with fail
 refine CA.out.mono ?_
 rintro e w ⟨a, n, k, rfl, hc⟩
 have HC := Lib.hid hc
 clear hc
 go_wp2_with fail
 go_ret
 exact ⟨a, n, k, rfl, HC.out⟩
set_option maxHeartbeats 4000000 in
theorem Trace_ok (h : BcRep 125 I w0 p sv pv c) : Calls Tryz.prog 48 #[.pointer (some ⟨p, 0, none⟩)] w0 fun e w' => ∃ a n k, e = .returned (.slice a n k) ∧ Copies w0 c.trace (.slice a n k) w' := by
 have c7 := (h.blk.cellr (bc_get _ _ _).2.2.2.2).at_one
 by_cases q : c.frm < 0
 ·have d1 : decide (c.frm < 0) = true := decide_eq_true q
  have E := Lib.hid (show c.trace = [] by unfold BcD.trace; rw [if_pos q])
  obtain ⟨f, hf⟩ : ∃ f, c.frm = f := ⟨_, rfl⟩
  rw [hf] at c7 d1
  clear h q hf
  go_enter Tryz.func48, Tryz.ntmps48
  go_wp2
  go_ret
  rw [E.out]
  exact ⟨none, 0, 0, rfl, gb_refl _, fun _ => False, fun _ h => h.elim, LRow.nil _ _, fun b h => by cases h⟩
 ·have hfr := h.ok.frm
  have hroom := h.ok.room
  obtain ⟨f, hf⟩ : ∃ f : Nat, c.frm = f := ⟨c.frm.toNat, by omega⟩
  rw [hf] at c7 hfr
  have E := Lib.hid (show c.trace = c.store.drop f by unfold BcD.trace; rw [if_neg q, hf]; rfl)
  have d1 : decide ((f : Int) < 0) = false := decide_eq_false (by omega)
  obtain ⟨m, gs, os, cs, y, hm, rfl, hle, hcm, _⟩ := h.last
  have hst := h.store
  rw [← hm] at hst
  have hdr := hst.drop (m := f) (by omega)
  rw [hm] at hdr hfr
  have CA := Lib.hid (fun w (g : w0.grownBy w none) => all_ok w (hdr.grown g) (by rw [List.length_drop]; omega))
  have F3 := Lib.hid (h.blk.cellr (bc_get _ _ _).1); have F7 := Lib.hid (RowAt.one c7)
  unfold maxLen at hcm
  have hs1 : (f : Int) ≤ (m : Int) + 1 := by omega
  have hs2 : ¬ cs = f := by omega
  have O := OwF.start (fun _ => False) w0
  clear h q hf hst hdr hm hroom
  go_enter Tryz.func48, Tryz.ntmps48
  go_upto_region 3 with (fail)
  replace O := O.drew
  refine wp_region_J (rdf [(3, p, 3, [(.slice (some ⟨gs, os, none⟩) (m + 1) cs)]), (7, p, 7, [(.int .i64 (f : Int))])]) [9] (by kernel_rfl) (RdA.cons (F3.out.grown (O.tch.grown (fun _ h => h.elim)) (by simp)) (RdA.cons (F7.out.grown (O.tch.grown (fun _ h => h.elim)) (by simp)) RdA.nil)) (fun hH => ?_)
  refine jp 0 ((.pointer (some ⟨p, 0, none⟩))) (Still.all hH) ?_
  simp only [Act.put, jq1, jq3]
  refine jp 1 ((.pointer (some ⟨p, 0, none⟩))) (Still.all hH) ?_
  simp only [Act.put, jq1, jq2, jq3, jq4, jq5, jq6]
  refine jp 2 ((.pointer (some ⟨p, 3, none⟩))) (Still.all hH) ?_
  simp only [Act.put, jq1, jq4]
  refine jr 0 3 ((.slice (some ⟨gs, os, none⟩) (m + 1) cs)) rfl rfl (yields_cell (by rfl) 70 _ rfl p 3 rfl (.slice (some ⟨gs, os, none⟩) (m + 1) cs) _ (fun W h => h) Tryz.underlying70 rfl) (Still.all hH) ?_
  simp only [Act.put, jq1, jq2, jq3, jq4, jq5, jq6]
  refine jp 4 ((.pointer (some ⟨p, 0, none⟩))) (Still.all hH) ?_
  simp only [Act.put, jq1, jq2, jq3, jq4, jq5, jq6]
  refine jp 5 ((.pointer (some ⟨p, 0, none⟩))) (Still.all hH) ?_
  simp only [Act.put, jq1, jq2, jq3, jq4, jq5, jq6]
  refine jp 6 ((.pointer (some ⟨p, 7, none⟩))) (Still.all hH) ?_
  simp only [Act.put, jq1, jq2, jq3, jq4, jq5, jq6]
  refine jr 1 7 ((.int .i64 (f : Int))) rfl rfl (yields_cell (by rfl) 3 _ rfl p 7 rfl (.int .i64 (f : Int)) _ (fun W h => h) Tryz.underlying3 rfl) (Still.all hH) ?_
  simp only [Act.put, jq1, jq2, jq3, jq4, jq5, jq6]
  refine jp 8 ((.slice (some ⟨gs, os + f * 200, none⟩) (m + 1 - f) (cs - f))) (Still.all hH) ?_
  simp only [Act.put, jq1, jq2, jq3, jq4, jq5, jq6]
  refine wpAnyJ_ready (rs := [9]) (by kernel_rfl) (by simp) ?_
  refine AllJ.keep rfl (by rfl) (by rfl) (fun K hK => ?_) (AllJ.nil)
  refine wp_call 74 _ _ (by rfl) (enters Tryz.func74 (by kernel_rfl) rfl) (by rfl) (CA.out _ (O.tch.grown (fun _ h => h.elim))) ?_
  rintro e u1 ⟨a1, n1, k1, rfl, hc⟩
  refine ⟨_, rfl, ?_⟩
  have HC := Lib.hid (show Copies w0 _ _ _ from ⟨Lib.grownBy_trans (O.tch.grown (fun _ h => h.elim)) hc.1, by obtain ⟨J, j1, j2, j3⟩ := hc.2; exact ⟨J, j1, j2, j3⟩⟩)
  have g1 := hc.1
  clear hc
  simp only [Act.put, jq1, jq2, jq3, jq4, jq5, jq6]
  refine hK.out _ _ (RdA.grown hH g1) ?_
  replace hH := RdA.grown hH g1
  clear hK K
  refine jp 10 ((.slice a1 n1 k1)) (Still.all hH) ?_
  simp only [Act.put, jq1, jq2, jq3, jq4, jq5, jq6]
  refine wpAnyJ_done (by kernel_rfl) ?_ _
  clear hH
  go_wp2_with fail
  go_ret
  rw [E.out]
  exact ⟨a1, n1, k1, rfl, HC.out⟩
end
section
variable {T : TypeId} {I : Nat → Prop} {w u w' : World} {p : Nat} {sv pv sv' : Value} {c c' : BcD} {ls : List LightD}
theorem BcRep.moved (h : BcRep T I w p sv pv c) (g : w.grownBy u none) (t2 : Tch (fun b => b = p) u w') (hL : LRow I u sv' ls) (ho : ∀ b, sv'.ownBlock = some b → w.heap.size ≤ b) (hb : Blk w' p (bcCells c' sv' pv) T) (hs : c'.store = ls) (hp : c'.pend = c.pend) (ok : c'.ok) : BcRep T I w' p sv' pv c' := by
 have hpl := h.blk.lt
 have hI : ∀ b, I b → ¬ b = p := fun b hb => (h.out b hb).2.1
 refine ⟨hb, ?_, ?_, fun e => by have := ho _ e; omega, h.pp, fun b hb e => by have h1 := ho b hb; have h2 := h.pend.lt e; omega, fun b hb => ⟨Nat.lt_of_lt_of_le (h.out b hb).1 (Nat.le_trans g.size t2.size), (h.out b hb).2.1, fun e => by have h1 := ho b e; have h2 := (h.out b hb).1; omega, (h.out b hb).2.2.2⟩, ok⟩
 ·rw [hs]
  exact hL.tch t2 (fun b hb e => by have h1 := ho b hb; omega) hI
 ·rw [hp]
  exact (h.pend.grown g).tch t2 (fun b hb e => h.pp (e ▸ hb)) hI
end
theorem BcD.ok.pruned {c : BcD} (h : c.ok) {n : Int} (hn : ¬ n < 1) : (c.prune n).1.ok := by
 have hl := List.length_pos_iff.2 h.some
 unfold BcD.prune
 rw [if_neg hn]
 refine ⟨h.o, ?_, ⟨Int.le_refl _, by dsimp only; decide⟩, h.fet, ⟨by dsimp only; decide, ?_⟩, ?_, fun l hm => h.height l (List.mem_of_mem_drop hm)⟩
 ·intro e
  have := congrArg List.length e
  rw [List.length_drop] at this
  simp at this; omega
 ·dsimp only; omega
 ·have := h.room; simp only [List.length_drop, List.length_nil]; omega
set_option maxHeartbeats 8000000 in
theorem Prune_ok {I : Nat → Prop} {w0 : World} {p : Nat} {sv pv : Value} {c : BcD} (h : BcRep 125 I w0 p sv pv c) (n : Int) (hn : i64R n) :
  Calls Tryz.prog 46 #[.pointer (some ⟨p, 0, none⟩), .int .i64 n] w0 fun e w' => e = .returned (.int .i64 (c.prune n).2) ∧ BcPost 125 I w0 p sv pv (c.prune n).1 w' := by
 by_cases q : n < 1
 ·have d1 : decide (n < 1) = true := decide_eq_true q
  have E := Lib.hid (show c.prune n = (c, 1) by unfold BcD.prune; rw [if_pos q])
  have H := Lib.hid h
  clear q h
  go_enter Tryz.func46, Tryz.ntmps46
  go_wp2_with fail
  go_ret
  rw [E.out]
  exact ⟨rfl, BcPost.same H.out (gb_refl _)⟩
 ·have d1 : decide (n < 1) = false := decide_eq_false q
  have hok := h.ok.pruned q
  obtain ⟨m, gs, os, cs, y, hm, rfl, hle, hcm, _⟩ := h.last
  obtain ⟨M, hM⟩ : ∃ M, (m + 1) - n.toNat = M := ⟨_, rfl⟩
  have E : c.prune n = ({ c with pend := [], want := 0, frm := -1, store := c.store.drop M }, 0) := by unfold BcD.prune; rw [if_neg q, hm, hM]
  rw [E] at hok
  have HE := Lib.hid E; have HOK := Lib.hid hok
  have hMm : M ≤ m := by omega
  have hmx : max (((m + 1 : Nat) : Int) - n) 0 = (M : Int) := by rw [Int.max_def]; split <;> omega
  have hmx2 : max ((m : Int) + 1 - n) 0 = (M : Int) := by rw [Int.max_def]; split <;> omega
  unfold i64R at hn
  have hbig : m + 1 ≤ 100000 := by have := h.ok.room; omega
  unfold maxLen at hcm
  have ew := IntWalk.i64_in ((m : Int) + 1 - n) (by omega)
  have hs1 : (M : Int) ≤ (m : Int) + 1 := by omega
  have hs2 : ¬ cs = M := by omega
  have CD := Lib.hid (drop_ok h)
  have HM := Lib.hid hm
  clear h q hM E hok hm
  go_enter Tryz.func46, Tryz.ntmps46
  go_wp2_with fail
  refine CD.out.mono ?_
  rintro e w2 ⟨rfl, r2, t2⟩
  have O := (OwF.start (fun b => b = p) w2).add r2.blk rfl (by simp)
  have R2 := Lib.hid r2; have T2 := Lib.hid t2
  clear r2 t2
  go_upto_region 5 with (first | ((with_reducible refine @wpList_at _ _ _ _ _ _ _ (.store 3 (.tmp 15) (.const (.int .i64 (-1)))) rfl ?_); refine @wpList_of_store_cell _ _ _ _ _ _ _ _ _ _ 3 (.tmp 15) (.const (.int .i64 (-1))) rfl O 0 p 7 rfl (.int .i64 (-1)) rfl (by kernel_rfl) _ _ rfl (by show (7 : Nat) < 8; decide) rfl rfl ?_; clear O; intro w O; simp only [List.set_cons_zero] at O))
  have k := R2.out.ok
  have r3 : BcRep 125 I w p (.slice (some ⟨gs, os, none⟩) (m + 1) cs) (.slice none 0 0) { c.drop with frm := -1 } :=
   R2.out.put O.tch (O.at_ 0 rfl) rfl (.inl ⟨rfl, rfl⟩) ⟨k.o, k.some, k.want, k.fet, ⟨by dsimp only; decide, by dsimp only; omega⟩, k.room, k.height⟩
  have hst := r3.store
  have hm2 : ({ c.drop with frm := -1 } : BcD).store.length = m + 1 := HM.out
  rw [← hm2] at hst
  have hdr := hst.drop (m := M) (by omega)
  rw [hm2] at hdr
  have CL2 := Lib.hid (fun u (g : w.grownBy u none) => cloneLights u (hdr.grown g) (by rw [List.length_drop]; omega) (by rw [List.length_drop]; omega))
  have R3 := Lib.hid r3; have T3 := Lib.hid (T2.out.trans O.tch (fun b hb _ => hb)); have F3 := Lib.hid (r3.blk.cellr (bc_get _ _ _).1)
  clear k r3 hst hdr O hm2
  have O := (OwF.start (fun _ => False) w).drew
  refine wp_region_J (rdf [(4, p, 3, [(.slice (some ⟨gs, os, none⟩) (m + 1) cs)]), (8, p, 3, [(.slice (some ⟨gs, os, none⟩) (m + 1) cs)])]) [14, 17] (by kernel_rfl) (RdA.cons (F3.out.grown (O.tch.grown (fun _ h => h.elim)) (by simp)) (RdA.cons (F3.out.grown (O.tch.grown (fun _ h => h.elim)) (by simp)) RdA.nil)) (fun hH => ?_)
  refine jp 0 ((.pointer (some ⟨p, 0, none⟩))) (Still.all hH) ?_
  simp only [Act.put, jq1, jq4]
  refine jp 1 ((.pointer (some ⟨p, 0, none⟩))) (Still.all hH) ?_
  simp only [Act.put, jq1, jq3, jq4, jq5, jq6]
  refine jp 2 ((.pointer (some ⟨p, 0, none⟩))) (Still.all hH) ?_
  simp only [Act.put, jq1, jq2, jq3, jq4, jq5, jq6]
  refine jp 3 ((.pointer (some ⟨p, 3, none⟩))) (Still.all hH) ?_
  simp only [Act.put, jq1, jq4]
  refine jr 0 4 ((.slice (some ⟨gs, os, none⟩) (m + 1) cs)) rfl rfl (yields_cell (by rfl) 70 _ rfl p 3 rfl (.slice (some ⟨gs, os, none⟩) (m + 1) cs) _ (fun W h => h) Tryz.underlying70 rfl) (Still.all hH) ?_
  simp only [Act.put, jq1, jq2, jq3, jq4, jq5, jq6]
  refine jp 5 ((.pointer (some ⟨p, 0, none⟩))) (Still.all hH) ?_
  simp only [Act.put, jq1, jq2, jq3, jq4, jq5, jq6]
  refine jp 6 ((.pointer (some ⟨p, 0, none⟩))) (Still.all hH) ?_
  simp only [Act.put, jq1, jq2, jq3, jq4, jq5, jq6]
  refine jp 7 ((.pointer (some ⟨p, 3, none⟩))) (Still.all hH) ?_
  simp only [Act.put, jq1, jq2, jq3, jq4, jq5, jq6]
  refine jr 1 8 ((.slice (some ⟨gs, os, none⟩) (m + 1) cs)) rfl rfl (yields_cell (by rfl) 70 _ rfl p 3 rfl (.slice (some ⟨gs, os, none⟩) (m + 1) cs) _ (fun W h => h) Tryz.underlying70 rfl) (Still.all hH) ?_
  simp only [Act.put, jq1, jq2, jq3, jq4, jq5, jq6]
  refine jp 9 ((.int .i64 ((m + 1 : Nat) : Int))) (Still.all hH) ?_
  simp only [Act.put, jq1, jq2, jq3, jq4, jq5, jq6]
  refine jp 10 ((.int .i64 n)) (Still.all hH) ?_
  simp only [Act.put, jq1, jq2, jq3, jq4, jq5, jq6]
  refine jp 11 ((.int .i64 ((m : Int) + 1 - n))) (Still.all hH) ?_
  simp only [Act.put, jq1, jq2, jq3, jq4, jq5, jq6]
  refine jp 12 ((.int .i64 (M : Int))) (Still.all hH) ?_
  simp only [Act.put, jq1, jq2, jq3, jq4, jq5, jq6]
  refine jp 13 ((.slice (some ⟨gs, os + M * 200, none⟩) (m + 1 - M) (cs - M))) (Still.all hH) ?_
  simp only [Act.put, jq1, jq2, jq3, jq4, jq5, jq6]
  refine wpAnyJ_ready (rs := [14]) (by kernel_rfl) (by simp) ?_
  refine AllJ.keep rfl (by rfl) (by rfl) (fun K hK => ?_) (AllJ.nil)
  refine wp_call 81 _ _ (by rfl) (enters Tryz.func81 (by kernel_rfl) rfl) (by rfl) (CL2.out _ (O.tch.grown (fun _ h => h.elim))) ?_
  rintro e u1 ⟨a1, n1, k1, rfl, hL1, hO1, g1⟩
  refine ⟨_, rfl, ?_⟩
  have HO1 := Lib.hid (show ∀ b, (Value.slice a1 n1 k1).ownBlock = some b → w.heap.size ≤ b from fun b hb => Nat.le_trans O.tch.size (hO1 b hb))
  replace O := O.call g1
  have G1 := Lib.hid (O.tch.grown (fun _ h => h.elim))
  have HL1 := Lib.hid hL1
  have OQ := (OwF.start (fun b => b = p) u1).add ((Tch.of_grown (F := fun _ => False) G1.out).blk R3.out.blk (fun h => h)) rfl (by simp)
  clear O hL1 hO1
  simp only [Act.put, jq1, jq2, jq3, jq4, jq5, jq6]
  refine hK.out _ _ (RdA.grown hH g1) ?_
  replace hH := RdA.grown hH g1
  clear hK K
  refine jp 15 ((.pointer (some ⟨p, 0, none⟩))) (Still.all hH) ?_
  simp only [Act.put, jq1, jq2, jq3, jq4, jq5, jq6]
  refine jp 16 ((.pointer (some ⟨p, 3, none⟩))) (Still.all hH) ?_
  simp only [Act.put, jq1, jq2, jq3, jq4, jq5, jq6]
  refine wpAnyJ_ready (rs := [17]) (by kernel_rfl) (by simp) ?_
  refine AllJ.turn rfl (by rfl) (by rfl) (fun K hK => ?_) (AllJ.nil)
  refine wp_of_store_cell 70 _ _ rfl OQ 0 p 3 rfl (.slice a1 n1 k1) rfl (by kernel_rfl) _ _ rfl (by show (3 : Nat) < 8; decide) rfl ?_
  clear OQ
  intro w9 OQ
  simp only [List.set_cons_zero] at OQ
  simp only [Act.put, jq1, jq2, jq3]
  refine hK.out _ _ (waits_all (by kernel_rfl)) ?_
  clear hK K hH
  refine wpAnyJ_done (by kernel_rfl) ?_ _
  go_wp2_with fail
  go_ret
  rw [HE.out]
  have hT := T3.out.trans ((Tch.of_grown (F := fun b => b = p) G1.out).trans OQ.tch (fun b hb _ => hb)) (fun b hb _ => hb)
  have hz : w0.heap.size ≤ w.heap.size := T3.out.size
  refine ⟨rfl, .slice a1 n1 k1, .slice none 0 0, R3.out.moved G1.out OQ.tch HL1.out HO1.out (OQ.at_ 0 rfl) rfl rfl HOK.out, hT.mono (fun b hb _ => .inl hb), fun b hb => ?_⟩
  rcases hb with hb | hb | hb
  ·exact .inl (.inl hb)
  ·exact .inr (Nat.le_trans hz (HO1.out b hb))
  ·cases hb
def One16 (h t : Int) (last : List UInt8) (w : World) (e : Ending) (w' : World) : Prop := ∃ x : LtR, e = .returned (.agg x.cells.toArray) ∧ x.of w'.heap.size w' (oneL h t last) ∧ x.inn (fun b => w.heap.size ≤ b) ∧ w.grownBy w' none
set_option maxHeartbeats 8000000 in
theorem one16_ok (h : Int) (last : List UInt8) (w0 : World) (hh : 1 ≤ h ∧ h ≤ 1099511627776) (hl : last.length = 32) :
  Calls Tryz.prog 72 #[.int .i64 h, .agg (Lib.byteCells last).toArray] w0 (One16 h (10 * h) last w0) := by
 have ew := IntWalk.i64_in (10 * h) (by omega)
 obtain ⟨t, ht10⟩ : ∃ t, 10 * h = t := ⟨_, rfl⟩
 have ht : i64R t := by unfold i64R; omega
 rw [ht10]
 conv at ew => rhs; rw [ht10]
 clear ht10
 have O := Own.start w0
 have hhr : i64R h := ⟨by omega, by omega⟩
 have CK := fun w => RKey_ok 5 w (by decide)
 rw [if_pos key5_ok, if_pos key5_ok] at CK
 have CS : ∀ (w : World) (g : Nat) (T : TypeId), Blk w g (setCells set5) T → Calls Tryz.prog 29 #[.slice (some ⟨g, 0, none⟩) 1 1] w fun e w' => e = .returned (.tuple #[.agg (Lib.byteCells (setHash set5)).toArray, .int .i64 0]) ∧ w.grownBy w' none := fun w g T hb => by
  have := RHashV_ok (.slice (some ⟨g, 0, none⟩) 1 1) set5 w set5_wf (rds_blk hb rfl 1 (Nat.le_refl _) (by unfold maxLen; omega)) (Nat.le_refl _)
  rw [set5_hash, set5_err] at this
  exact this
 have hdw := hdr5_wf hhr ht hl
 have CH := fun w => RHeaderHash (hdr5 h t last) w hdw (by show ([97] : List UInt8).length ≤ _; decide)
 unfold RHashes at CH
 have hv := vote5_wf (h := h) (b := hdrHash (hdr5 h t last)) hhr (hdrHash_len _)
 have CV := fun w => RTSign_ok 5 (vote5 h (hdrHash (hdr5 h t last))) w (by decide) hv (by show ([97] : List UInt8).length ≤ _; decide)
 rw [sign5 hh] at CV
 have EX1 : blake (2 :: encHeader (hdr5 h t last)) = hdrHash (hdr5 h t last) := rfl
 rw [EX1] at CH
 have vsz : ((vote5 h (hdrHash (hdr5 h t last))).by (pw 37 5) (sgR 5 (encVote (vote5 h (hdrHash (hdr5 h t last))).bare)) (sgS 5 (encVote (vote5 h (hdrHash (hdr5 h t last))).bare))).cells.length = 39 := by_length _ hv _ _ _
 have vone := VoteD_one ((vote5 h (hdrHash (hdr5 h t last))).by (pw 37 5) (sgR 5 (encVote (vote5 h (hdrHash (hdr5 h t last))).bare)) (sgS 5 (encVote (vote5 h (hdrHash (hdr5 h t last))).bare)))
 have vsig : ∀ (w : World) (g : Nat), RowAt w g 0 ((vote5 h (hdrHash (hdr5 h t last))).by (pw 37 5) (sgR 5 (encVote (vote5 h (hdrHash (hdr5 h t last))).bare)) (sgS 5 (encVote (vote5 h (hdrHash (hdr5 h t last))).bare))).cells → RowAt w g 37 [.int .u64 ((sgR 5 (encVote (vote5 h (hdrHash (hdr5 h t last))).bare) : Nat) : Int), .int .u64 ((sgS 5 (encVote (vote5 h (hdrHash (hdr5 h t last))).bare) : Nat) : Int)] := fun w g hr => by
  refine part_of (k := 37) (n := 2) hr ?_
  unfold VoteD.by VoteD.cells vote5
  dsimp only
  have hb : (Lib.byteCells (hdrHash (hdr5 h t last))).length = 32 := by rw [Lib.byteCells_length, hdrHash_len]
  generalize Lib.byteCells (hdrHash (hdr5 h t last)) = B at *
  rw [List.drop_append, List.drop_eq_nil_of_le (by simp; omega)]
  simp [hb]
 have bH := bHdrG ⟨#[97]⟩ h t last (setHash set5) (setHash set5) hl (setHash_len _) (setHash_len _)
 have bV := bVoteG ⟨#[97]⟩ h 2 (hdrHash (hdr5 h t last)) (hdrHash_len _)
 have E1 : oneL h t last = ⟨hdr5 h t last, ⟨h, 0, hdrHash (hdr5 h t last), [⟨((pw 37 5 : Nat) : Int), ((sgR 5 (encVote (vote5 h (hdrHash (hdr5 h t last))).bare) : Nat) : Int), ((sgS 5 (encVote (vote5 h (hdrHash (hdr5 h t last))).bare) : Nat) : Int)⟩]⟩, [⟨((pw 37 5 : Nat) : Int), 2⟩], [⟨((pw 37 5 : Nat) : Int), 2⟩]⟩ := rfl
 have E2 : setCells set5 = (⟨((pw 37 5 : Nat) : Int), 2⟩ : ValD).cells := rfl
 rw [E2] at CS
 have E3 : (⟨⟨#[97]⟩, h, t, last, setHash set5, setHash set5, z32, z32⟩ : HeaderD) = hdr5 h t last := rfl
 rw [E3] at bH
 have E4 : (⟨⟨#[97]⟩, h, 0, 2, hdrHash (hdr5 h t last), 0, 0, 0⟩ : VoteD) = vote5 h (hdrHash (hdr5 h t last)) := rfl
 rw [E4] at bV
 unfold One16
 rw [E1]
 obtain ⟨r, hr⟩ : ∃ r, sgR 5 (encVote (vote5 h (hdrHash (hdr5 h t last))).bare) = r := ⟨_, rfl⟩
 obtain ⟨s, hs⟩ : ∃ r, sgS 5 (encVote (vote5 h (hdrHash (hdr5 h t last))).bare) = r := ⟨_, rfl⟩
 rw [hr, hs] at CV vsz vone vsig ⊢
 obtain ⟨VB, hVB⟩ : ∃ v, (vote5 h (hdrHash (hdr5 h t last))).by (pw 37 5) r s = v := ⟨_, rfl⟩
 rw [hVB] at CV vsz vone vsig
 have hvl := (vote5 h (hdrHash (hdr5 h t last))).cells_length hv
 obtain ⟨VV, hVV⟩ : ∃ v, vote5 h (hdrHash (hdr5 h t last)) = v := ⟨_, rfl⟩
 rw [hVV] at CV bV hvl
 obtain ⟨K, hK⟩ : ∃ k : Int, ((pw 37 5 : Nat) : Int) = k := ⟨_, rfl⟩
 rw [hK] at CK CS ⊢
 have LB := hdrHash_len (hdr5 h t last)
 obtain ⟨BB, hBB⟩ : ∃ b, hdrHash (hdr5 h t last) = b := ⟨_, rfl⟩
 rw [hBB] at CH bV LB ⊢
 have LS := setHash_len set5
 obtain ⟨SS, hSS⟩ : ∃ b, setHash set5 = b := ⟨_, rfl⟩
 rw [hSS] at CS bH LS
 obtain ⟨HH, hHH⟩ : ∃ b, hdr5 h t last = b := ⟨_, rfl⟩
 rw [hHH] at CH bH hdw ⊢
 obtain ⟨RI, hRI⟩ : ∃ x : Int, ((r : Nat) : Int) = x := ⟨_, rfl⟩
 obtain ⟨SI, hSI⟩ : ∃ x : Int, ((s : Nat) : Int) = x := ⟨_, rfl⟩
 rw [hRI, hSI] at vsig ⊢
 replace CK := Lib.hid CK; replace CS := Lib.hid CS; replace CH := Lib.hid CH; replace CV := Lib.hid CV
 have L0 := Lib.hid hl; replace LB := Lib.hid LB; replace LS := Lib.hid LS; have HDW := Lib.hid hdw; replace bH := Lib.hid bH; replace bV := Lib.hid bV
 have VS := Lib.hid vsz; have V1 := Lib.hid vone; have VG := Lib.hid vsig; have BL := Lib.hid (bLightG HH hdw)
 have PC := Lib.hid (fun (h r h' r' : Int) (b b' : List UInt8) hb hb' a1 a2 a3 a4 n1 k1 n2 k2 n3 k3 n4 k4 => LtR.put_commit HH hdw h r h' r' b b' hb hb' a1 a2 a3 a4 n1 k1 n2 k2 n3 k3 n4 k4)
 clear hr hs hVB hVV hK hBB hSS hHH hRI hSI vsz vone vsig hv hdw hh ht hl hhr E1 E2 E3 E4 EX1 hvl
 go_enter Tryz.func72, Tryz.ntmps72
 go_wp2_with (first | ((with_reducible refine @wpList_at _ _ _ _ _ _ _ (.box 23 (.tmp 1)) rfl ?_); refine @wpList_own_box _ _ _ _ _ _ _ _ _ 23 (.tmp 1) rfl (Lib.byteCells last) rfl O rfl ?_; clear O; intro b5 w O) | ((with_reducible refine @wpList_at _ _ _ _ _ _ _ (.alloc 31) rfl ?_); refine @wpList_own_alloc _ _ _ _ _ _ _ _ _ 31 rfl ZLt0 ZLt0_info O rfl ?_; clear O; intro b6 w O))
 refine (CK.out _).mono ?_
 rintro e w' ⟨rfl, rfl⟩
 go_wp2_with (first | ((with_reducible refine @wpList_at _ _ _ _ _ _ _ (.build 115 #[(0, .tmp 19), (1, .const (.int .i64 2))]) rfl ?_); refine wpList_build_eq rfl 115 _ rfl [(0, .int .u64 K), (1, .int .i64 2)] (by kernel_rfl) _ (bValG K 2) ?_) | ((with_reducible refine @wpList_at _ _ _ _ _ _ _ (.buildSlice 29 1 #[(0, .tmp 20)]) rfl ?_); refine wpList_own_one rfl 29 (.tmp 20) rfl (⟨K, 2⟩ : ValD).cells rfl 115 _ 2 Tryz.underlying29 val_z rfl (by decide) O ?_; clear O; intro gv w O))
 refine (CS.out _ _ _ (O.at_ 0 rfl)).mono ?_
 rintro e w ⟨rfl, g⟩
 replace O := O.call g
 clear g
 go_wp2_with (first | ((with_reducible refine @wpList_at _ _ _ _ _ _ _ (.alloc 23) rfl ?_); refine @wpList_own_alloc _ _ _ _ _ _ _ _ _ 23 rfl ZH ZH_info O rfl ?_; clear O; intro p10 w O) | ((with_reducible refine @wpList_at _ _ _ _ _ _ _ (.store 23 (.tmp 8) (.tmp 25)) rfl ?_); refine @wpList_own_store _ _ _ _ _ _ _ _ _ 23 (.tmp 8) (.tmp 25) rfl O 0 p10 rfl (Lib.byteCells SS) ZH _ rfl rfl (by rw [Lib.byteCells_length, LS.out]; rfl) (oneCell_bytes _) (sizeH _ (by rw [Lib.byteCells_length, LS.out])) rfl ?_; clear O; intro w O; simp only [List.set_cons_zero] at O) | ((with_reducible refine @wpList_at _ _ _ _ _ _ _ (.load 23 (.tmp 3)) rfl ?_); refine @wpList_own_whole _ _ _ _ _ _ _ _ _ 23 (.tmp 3) rfl O 3 b5 rfl (Lib.byteCells last) _ rfl _ Tryz.underlying23 rfl (sizeH _ (by rw [Lib.byteCells_length, L0.out])) rfl ?_) | ((with_reducible refine @wpList_at _ _ _ _ _ _ _ (.load 23 (.tmp 8)) rfl ?_); refine @wpList_own_whole _ _ _ _ _ _ _ _ _ 23 (.tmp 8) rfl O 0 p10 rfl (Lib.byteCells SS) _ rfl _ Tryz.underlying23 rfl (sizeH _ (by rw [Lib.byteCells_length, LS.out])) rfl ?_) | ((with_reducible refine @wpList_at _ _ _ _ _ _ _ (.build 25 #[(0, .const (.string { data := #[97] })), (1, .tmp 27), (2, .tmp 29), (3, .tmp 30), (4, .tmp 31), (5, .tmp 32)]) rfl ?_); refine wpList_build_eq rfl 25 _ rfl [(0, .string ⟨#[97]⟩), (1, .int .i64 h), (2, .int .i64 t), (3, .agg (Lib.byteCells last).toArray), (4, .agg (Lib.byteCells SS).toArray), (5, .agg (Lib.byteCells SS).toArray)] (by kernel_rfl) _ bH.out ?_) | ((with_reducible refine @wpList_at _ _ _ _ _ _ _ (.build 31 #[(0, .tmp 33), (2, .tmp 34), (3, .tmp 35)]) rfl ?_); refine wpList_build_eq rfl 31 _ rfl [(0, .agg HH.cells.toArray), (2, .slice (some ⟨gv, 0, none⟩) 1 1), (3, .slice (some ⟨gv, 0, none⟩) 1 1)] (by kernel_rfl) _ (BL.out (some ⟨gv, 0, none⟩) (some ⟨gv, 0, none⟩) 1 1 1 1) ?_) | ((with_reducible refine @wpList_at _ _ _ _ _ _ _ (.alloc 31) rfl ?_); refine @wpList_own_alloc _ _ _ _ _ _ _ _ _ 31 rfl ZLt0 ZLt0_info O rfl ?_; clear O; intro b12 w O) | ((with_reducible refine @wpList_at _ _ _ _ _ _ _ (.store 31 (.tmp 10) (.tmp 36)) rfl ?_); refine @wpList_own_store _ _ _ _ _ _ _ _ _ 31 (.tmp 10) (.tmp 36) rfl O 0 b12 rfl (⟨HH, 0, 0, z32, none, 0, 0, some ⟨gv, 0, none⟩, 1, 1, some ⟨gv, 0, none⟩, 1, 1⟩ : LtR).cells ZLt0 _ rfl rfl (LtR.cells_length _ (lt_wf HDW.out rfl (by decide) (by decide) (by decide))) (LtR_one _) (sizeLt _ (lt_wf HDW.out rfl (by decide) (by decide) (by decide))) rfl ?_; clear O; intro w O; simp only [List.set_cons_zero] at O) | ((with_reducible refine @wpList_at _ _ _ _ _ _ _ (.load 25 (.tmp 38)) rfl ?_); refine @wpList_own_part _ _ _ _ _ _ _ _ _ 25 (.tmp 38) rfl O 0 b12 0 rfl _ _ rfl HH.cells _ (fun h => LtR.hdr_at (x := ⟨HH, 0, 0, z32, none, 0, 0, some ⟨gv, 0, none⟩, 1, 1, some ⟨gv, 0, none⟩, 1, 1⟩) h (lt_wf HDW.out rfl (by decide) (by decide) (by decide))) Tryz.underlying25 rfl (sizeHeader _ (HH.cells_length HDW.out)) rfl ?_))
 refine (CH.out _).mono ?_
 rintro e w ⟨rfl, g⟩
 replace O := O.call g
 clear g
 go_wp2_with (first | ((with_reducible refine @wpList_at _ _ _ _ _ _ _ (.alloc 23) rfl ?_); refine @wpList_own_alloc _ _ _ _ _ _ _ _ _ 23 rfl ZH ZH_info O rfl ?_; clear O; intro p13 w O) | ((with_reducible refine @wpList_at _ _ _ _ _ _ _ (.store 23 (.tmp 11) (.tmp 41)) rfl ?_); refine @wpList_own_store _ _ _ _ _ _ _ _ _ 23 (.tmp 11) (.tmp 41) rfl O 0 p13 rfl (Lib.byteCells BB) ZH _ rfl rfl (by rw [Lib.byteCells_length, LB.out]; rfl) (oneCell_bytes _) (sizeH _ (by rw [Lib.byteCells_length, LB.out])) rfl ?_; clear O; intro w O; simp only [List.set_cons_zero] at O) | ((with_reducible refine @wpList_at _ _ _ _ _ _ _ (.load 23 (.tmp 11)) rfl ?_); refine @wpList_own_whole _ _ _ _ _ _ _ _ _ 23 (.tmp 11) rfl O 0 p13 rfl (Lib.byteCells BB) _ rfl _ Tryz.underlying23 rfl (sizeH _ (by rw [Lib.byteCells_length, LB.out])) rfl ?_) | ((with_reducible refine @wpList_at _ _ _ _ _ _ _ (.build 54 #[(0, .const (.string { data := #[97] })), (1, .tmp 44), (3, .const (.int .i64 2)), (4, .tmp 45)]) rfl ?_); refine wpList_build_eq rfl 54 _ rfl [(0, .string ⟨#[97]⟩), (1, .int .i64 h), (3, .int .i64 2), (4, .agg (Lib.byteCells BB).toArray)] (by kernel_rfl) _ bV.out ?_))
 refine (CV.out _).mono ?_
 rintro e w ⟨rfl, g⟩
 replace O := O.call g
 clear g
 go_wp2_with (first | ((with_reducible refine @wpList_at _ _ _ _ _ _ _ (.alloc 54) rfl ?_); refine @wpList_own_alloc _ _ _ _ _ _ _ _ _ 54 rfl ZVote ZVote_info O rfl ?_; clear O; intro b15 w O) | ((with_reducible refine @wpList_at _ _ _ _ _ _ _ (.store 54 (.tmp 13) (.tmp 48)) rfl ?_); refine @wpList_own_store _ _ _ _ _ _ _ _ _ 54 (.tmp 13) (.tmp 48) rfl O 0 b15 rfl VB.cells ZVote _ rfl rfl VS.out V1.out (sizeVote _ VS.out) rfl ?_; clear O; intro w O; simp only [List.set_cons_zero] at O) | ((with_reducible refine @wpList_at _ _ _ _ _ _ _ (.load 23 (.tmp 11)) rfl ?_); refine @wpList_own_whole _ _ _ _ _ _ _ _ _ 23 (.tmp 11) rfl O 1 p13 rfl (Lib.byteCells BB) _ rfl _ Tryz.underlying23 rfl (sizeH _ (by rw [Lib.byteCells_length, LB.out])) rfl ?_) | ((with_reducible refine @wpList_at _ _ _ _ _ _ _ (.load 49 (.tmp 53)) rfl ?_); refine @wpList_own_part _ _ _ _ _ _ _ _ _ 49 (.tmp 53) rfl O 0 b15 37 rfl _ _ rfl [.int .u64 RI, .int .u64 SI] _ (fun h => VG.out _ _ h) Tryz.underlying49 rfl sizeSigI rfl ?_) | ((with_reducible refine @wpList_at _ _ _ _ _ _ _ (.build 51 #[(0, .tmp 52), (1, .tmp 54)]) rfl ?_); refine wpList_build_eq rfl 51 _ rfl [(0, .int .u64 K), (1, .agg #[.int .u64 RI, .int .u64 SI])] (by kernel_rfl) _ (bSealG K RI SI) ?_) | ((with_reducible refine @wpList_at _ _ _ _ _ _ _ (.buildSlice 26 1 #[(0, .tmp 55)]) rfl ?_); refine wpList_own_one rfl 26 (.tmp 55) rfl (⟨K, RI, SI⟩ : SealD).cells rfl 51 _ 3 Tryz.underlying26 seal_z rfl (by decide) O ?_; clear O; intro gs w O) | ((with_reducible refine @wpList_at _ _ _ _ _ _ _ (.build 28 #[(0, .tmp 50), (2, .tmp 51), (3, .tmp 56)]) rfl ?_); refine wpList_build_eq rfl 28 _ rfl [(0, .int .i64 h), (2, .agg (Lib.byteCells BB).toArray), (3, .slice (some ⟨gs, 0, none⟩) 1 1)] (by kernel_rfl) _ (bCommitG h BB LB.out (some ⟨gs, 0, none⟩) 1 1) ?_) | ((with_reducible refine @wpList_at _ _ _ _ _ _ _ (.store 28 (.tmp 58) (.tmp 57)) rfl ?_); refine @wpList_own_store_part _ _ _ _ _ _ _ _ _ 28 (.tmp 58) (.tmp 57) rfl O 3 b12 163 rfl (commitV h 0 BB (.slice (some ⟨gs, 0, none⟩) 1 1)) _ _ rfl rfl (by rw [commitV_len _ _ _ _ LB.out, LtR.cells_length _ (lt_wf HDW.out rfl (by decide) (by decide) (by decide))]; decide) (commitV_one _ _ _ _ rfl) (by rw [commitV_len _ _ _ _ LB.out]; exact sizeCommit) rfl ?_; clear O; intro w O; simp only [List.set_cons_zero, List.set_cons_succ] at O; rw [PC.out 0 0 h 0 z32 BB rfl LB.out none (some ⟨gv, 0, none⟩) (some ⟨gv, 0, none⟩) (some ⟨gs, 0, none⟩) 0 0 1 1 1 1 1 1] at O) | ((with_reducible refine @wpList_at _ _ _ _ _ _ _ (.load 31 (.tmp 10)) rfl ?_); refine @wpList_own_whole _ _ _ _ _ _ _ _ _ 31 (.tmp 10) rfl O 3 b12 rfl (⟨HH, h, 0, BB, some ⟨gs, 0, none⟩, 1, 1, some ⟨gv, 0, none⟩, 1, 1, some ⟨gv, 0, none⟩, 1, 1⟩ : LtR).cells _ rfl _ Tryz.underlying31 rfl (sizeLt _ (lt_wf HDW.out LB.out (by decide) (by decide) (by decide))) rfl ?_) | ((with_reducible refine @wpList_at _ _ _ _ _ _ _ (.store 31 (.tmp 4) (.tmp 59)) rfl ?_); refine @wpList_own_store _ _ _ _ _ _ _ _ _ 31 (.tmp 4) (.tmp 59) rfl O 6 b6 rfl (⟨HH, h, 0, BB, some ⟨gs, 0, none⟩, 1, 1, some ⟨gv, 0, none⟩, 1, 1, some ⟨gv, 0, none⟩, 1, 1⟩ : LtR).cells ZLt0 _ rfl rfl (LtR.cells_length _ (lt_wf HDW.out LB.out (by decide) (by decide) (by decide))) (LtR_one _) (sizeLt _ (lt_wf HDW.out LB.out (by decide) (by decide) (by decide))) rfl ?_; clear O; intro w O; simp only [List.set_cons_zero, List.set_cons_succ] at O))
 refine bodyPost_ret (results_cell_one rfl _ _ ⟨b6, 0, none⟩ _ rfl (run_loadVar_part _ _ _ 31 (⟨HH, h, 0, BB, some ⟨gs, 0, none⟩, 1, 1, some ⟨gv, 0, none⟩, 1, 1, some ⟨gv, 0, none⟩, 1, 1⟩ : LtR).cells _ (O.at_ 6 rfl).row Tryz.underlying31 rfl (sizeLt _ (lt_wf HDW.out LB.out (by decide) (by decide) (by decide))))) rfl ⟨(⟨HH, h, 0, BB, some ⟨gs, 0, none⟩, 1, 1, some ⟨gv, 0, none⟩, 1, 1, some ⟨gv, 0, none⟩, 1, 1⟩ : LtR), rfl, ⟨rfl, rfl, rfl, rfl, rds_blk (O.at_ 0 rfl) rfl 1 (Nat.le_refl _) (by unfold maxLen; omega), rds_blk (O.at_ 5 rfl) rfl 1 (Nat.le_refl _) (by unfold maxLen; omega), rds_blk (O.at_ 5 rfl) rfl 1 (Nat.le_refl _) (by unfold maxLen; omega)⟩, ⟨fun a _ e => by injection e with e; subst e; exact O.low 0 rfl, fun a _ e => by injection e with e; subst e; exact O.low 5 rfl, fun a _ e => by injection e with e; subst e; exact O.low 5 rfl⟩, O.grown⟩
def a16 : LightD := oneL 1 10 z32
def b16 : LightD := oneL 4 40 z32
theorem hz_b16 : hdrHash (hdr5 4 40 z32) ≠ z32 := by decide +kernel
def opt16 : OptD := ⟨4602678819172646912, 4652007308841189376, 4621819117588971520⟩
theorem opt16_wf : opt16.wf := ⟨by decide, by decide, by decide⟩
theorem a16_sound : soundL ⟨#[97]⟩ a16 = 0 := one_sound (by decide) (by decide) hz_a
theorem b16_sound : soundL ⟨#[97]⟩ b16 = 0 := one_sound (by decide) (by decide) hz_b16
theorem vouch16 : vouchL a16 b16 opt16 = 0 := by
 obtain ⟨h1, h2, h3, h4, _⟩ := check_iff.1 (sound_iff.1 b16_sound).check
 have hs : sharedL a16.next a16.header.chain b16.commit = (powS a16.next b16.commit.seals, 0) := shared_yes h1 h2 h3 h4
 have hp : powS a16.next b16.commit.seals = 2 := by
  show ([seal5 4 (hdrHash (hdr5 4 40 z32))].map fun s => powL s.key set5).sum = 2
  have : powL (seal5 4 (hdrHash (hdr5 4 40 z32))).key set5 = 2 := pow5
  simp [this]
 unfold vouchL
 rw [hs, hp, if_neg (by decide), if_neg]
 show ¬ excL 2 (totalL set5) opt16.level = false
 rw [total5]; decide +kernel
theorem step16 : vstepL a16 b16 4631530004285489152 opt16 = 0 := by
 rw [step_iff]
 exact ⟨by decide +kernel, by decide +kernel, by decide +kernel, by decide, by decide, by decide +kernel, b16_sound, .inr ⟨by decide, vouch16⟩⟩
theorem new16 : bnewE a16 4624633867356078080 opt16 = 0 := by
 unfold bnewE
 have h1 : rightO opt16 = true := by decide +kernel
 have h2 : finB 4624633867356078080 = true := by decide +kernel
 have h3 : expF a16.header.time 4624633867356078080 opt16 = false := by decide +kernel
 rw [if_neg (by rw [h1]; decide), if_neg (by rw [h2]; decide), if_neg (fun h => h a16_sound), if_neg (by rw [h3]; decide)]
theorem goal16 : (BcD.new a16 opt16).goal 4 = (⟨opt16, [a16], [], 4, 0, 0⟩, 0) := rfl
theorem give16 : (⟨opt16, [a16], [], 4, 0, 0⟩ : BcD).give b16 4631530004285489152 = (⟨opt16, [a16, b16], [], 0, 1, 0⟩, 0) := by
 unfold BcD.give
 rw [if_neg (by rintro (h | h | h); exact absurd h (by decide); exact h rfl; exact h rfl), if_neg (by decide)]
 show BcD.climb 4631530004285489152 1 _ = _
 unfold BcD.climb
 dsimp only
 rw [if_pos (show vstepL (lastB [a16]) (lastB ([] ++ [b16])) 4631530004285489152 opt16 = 0 from step16)]
 rfl
theorem a16_fit : a16.fit := ⟨one_wf (by unfold i64R; decide) (by unfold i64R; decide) rfl, by decide, by decide, by decide, by show ([97] : List UInt8).length ≤ _; decide⟩
theorem b16_fit : b16.fit := ⟨one_wf (by unfold i64R; decide) (by unfold i64R; decide) rfl, by decide, by decide, by decide, by show ([97] : List UInt8).length ≤ _; decide⟩
set_option maxHeartbeats 1000000 in
theorem options_ok (w0 : World) : Calls Tryz.prog 34 #[] w0 fun e w' => e = .returned (.agg opt16.cells.toArray) ∧ w0.grownBy w' none := by
 have O := OwF.start (fun _ => False) w0
 go_enter Tryz.func34, Tryz.ntmps34
 go_wp2_with (first | ((with_reducible refine @wpList_at _ _ _ _ _ _ _ (.alloc 35) rfl ?_); refine @wpList_of_alloc _ _ _ _ _ _ _ _ _ _ 35 rfl ZOpt ZOpt_info O rfl ?_; clear O; intro bo w O) | ((with_reducible refine @wpList_at _ _ _ _ _ _ _ (.build 35 #[(0, .const (.float .f64 4602678819172646912)), (1, .const (.float .f64 4652007308841189376)), (2, .const (.float .f64 4621819117588971520))]) rfl ?_); refine wpList_build_eq rfl 35 _ rfl [(0, .float .f64 4602678819172646912), (1, .float .f64 4652007308841189376), (2, .float .f64 4621819117588971520)] (by kernel_rfl) opt16.cells (bOptG _ _ _) ?_) | ((with_reducible refine @wpList_at _ _ _ _ _ _ _ (.store 35 (.tmp 0) (.tmp 1)) rfl ?_); refine @wpList_of_store _ _ _ _ _ _ _ _ _ _ 35 (.tmp 0) (.tmp 1) rfl O 0 bo rfl opt16.cells ZOpt _ rfl rfl rfl opt_one sizeOpt rfl ?_; clear O; intro w O; simp only [List.set_cons_zero] at O))
 refine bodyPost_ret (results_cell_one rfl _ _ ⟨bo, 0, none⟩ _ rfl (run_loadVar_part _ _ _ 35 opt16.cells _ (O.at_ 0 rfl).row Tryz.underlying35 rfl sizeOpt)) rfl ?_
 exact ⟨rfl, O.tch.grown (fun _ h => h.elim)⟩
theorem run_build_op2 {P : Program} {o : Oper} {a : Act} {w : World} (t : TypeId) (parts : Array (Nat × Operand)) (ho : o.op = .build t parts)
  (ps : List (Nat × Value)) (hp : (parts.map fun (i, x) => (i, a.eval x)).toList = ps) (cs : List Value) (hb : P.built t ps = some cs.toArray) : (execOp a.eval o).run P w = .ok (.value (.agg cs.toArray)) w := by
 have hb' : P.built t (parts.map fun (i, x) => (i, a.eval x)).toList = some cs.toArray := by rw [hp]; exact hb
 unfold execOp
 simp only [ho, Sem.run_bind, run_build w t _ _ hb', Result.andThen_ok, Sem.run_pure]
theorem bClient (x y z : Nat) (a : Option Addr) (n c : Nat) : Tryz.prog.built 125 [(0, .agg (⟨x, y, z⟩ : OptD).cells.toArray), (1, .slice a n c), (5, .int .i64 (-1))] = some #[.float .f64 x, .float .f64 y, .float .f64 z, .slice a n c, .slice none 0 0, .int .i64 0, .int .i64 0, .int .i64 (-1)] := by kernel_rfl
def NewPost (T : TypeId) (w : World) (l : LightD) (now : Nat) (o : OptD) (e : Ending) (w' : World) : Prop :=
 w.grownBy w' none ∧ ((bnewE l now o ≠ 0 ∧ e = .returned (.tuple #[.pointer none, .int .i64 (bnewE l now o)])) ∨
  (bnewE l now o = 0 ∧ ∃ (p : Nat) (sv : Value) (I : Nat → Prop), e = .returned (.tuple #[.pointer (some ⟨p, 0, none⟩), .int .i64 0]) ∧ BcRep T I w' p sv (.slice none 0 0) (BcD.new l o) ∧
   (∀ b, Foot p sv (.slice none 0 0) b → w.heap.size ≤ b) ∧ (∀ b, I b → w.heap.size ≤ b ∨ b = 1) ∧ I 1))
theorem new_ok {l : LightD} {o : OptD} (ho : o.wf) (h : hOk l) : (BcD.new l o).ok := ⟨ho, by simp [BcD.new], ⟨Int.le_refl _, by show (0 : Int) ≤ _; decide⟩, ⟨Int.le_refl _, by show (0 : Int) ≤ _; decide⟩, ⟨by show (-1 : Int) ≤ -1; decide, by show (-1 : Int) < _; simp [BcD.new]⟩, by simp [BcD.new], by intro x hx; simp [BcD.new] at hx; rw [hx]; exact h⟩
theorem LRow.one {I : Nat → Prop} {w : World} {g : Nat} {x : LtR} {l : LightD} (hb : Blk w g x.cells 31) (hx : x.of w.heap.size w l) (hi : x.inn I) (hf : l.fit) : LRow I w (.slice (some ⟨g, 0, none⟩) 1 1) [l] := by
 have hl := x.cells_length (hx.wf hf.wf)
 refine ⟨[x], ⟨by simp [ltsCells, hl], .inr ⟨g, 0, 1, x.cells, rfl, hb, Nat.le_refl _, by unfold maxLen; decide, by rw [hl]; decide, ?_⟩⟩, rfl, fun i y m hy hm => ?_⟩
 ·simp only [ltsCells, List.flatMap_cons, List.flatMap_nil, List.append_nil, List.drop_zero, List.length_cons, List.length_nil]
  exact List.take_of_length_le (by omega)
 ·cases i with
  | zero =>
   simp only [List.getElem?_cons_zero, Option.some.injEq] at hy hm
   subst hy hm
   exact ⟨hx, hi, hf⟩
  | succ i => simp at hy
set_option maxHeartbeats 8000000 in
theorem New_ok2 (x : LtR) (l : LightD) (now : Nat) (o : OptD) (w0 : World) (hof : x.of w0.heap.size w0 l) (hfit : l.fit) (hnow : now < 18446744073709551616) (ho : o.wf) (hR : RowAt w0 1 0 (wCells rootsL)) :
  Calls Tryz.prog 35 #[.agg x.cells.toArray, .float .f64 now, .agg o.cells.toArray] w0 (NewPost 125 w0 l now o) := by
 have XW := Lib.hid (hof.wf hfit.wf)
 have CR := fun w => optRight_ok o w
 have CI := fun w => isInf_ok now w hnow; have CN := isNaN_ok now; have hfin := finB_eq hnow
 have CE := fun w => expired_ok l.header.time now o w hnow hfit.wf.header.time
 have CS := fun w (g : w0.grownBy w none) => vSound_ok l.header.chain x l w hfit.wf (hof.up g (Nat.le_refl _)) (by have := hfit.seals; omega) (by have := hfit.chain; unfold maxLen; omega) (hR.grown g (by simp))
 have CC1 := Lib.hid (fun w (g : w0.grownBy w none) => copied_ok x l w hfit (hof.up g (Nat.le_refl _)))
 have P0 : x.cells[0]? = some (.string l.header.chain) := by rw [← hof.header]; rfl
 have P2 : x.cells[2]? = some (.int .i64 l.header.time) := by rw [← hof.header]; rfl
 have hsk : soundL l.header.chain l = 0 → hOk l := sound_hOk
 have HB := Lib.hid (show bnewE l now o = if rightO o = false then 151 else if finB now = false then 154 else if soundL l.header.chain l ≠ 0 then soundL l.header.chain l else if expF l.header.time now o = true then 155 else 0 from rfl)
 rw [hfin] at HB
 have hrl : 1 < w0.heap.size := World.block_lt_of_cell? _ _ (hR 0 _ rfl)
 have HRL := Lib.hid hrl
 obtain ⟨r, hr⟩ : ∃ z, rightO o = z := ⟨_, rfl⟩
 obtain ⟨n1, hn1⟩ : ∃ z, nanF now = z := ⟨_, rfl⟩
 obtain ⟨n2, hn2⟩ : ∃ z, infF now = z := ⟨_, rfl⟩
 obtain ⟨s, hs⟩ : ∃ z, soundL l.header.chain l = z := ⟨_, rfl⟩
 obtain ⟨ex, hex⟩ : ∃ z, expF l.header.time now o = z := ⟨_, rfl⟩
 rw [hr, hn1, hn2, hs, hex] at HB
 rw [hr] at CR; rw [hn1] at CN; rw [hn2] at CI; rw [hs] at CS hsk; rw [hex] at CE
 obtain ⟨CH, hCH⟩ : ∃ z, l.header.chain = z := ⟨_, rfl⟩
 obtain ⟨TM, hTM⟩ : ∃ z, l.header.time = z := ⟨_, rfl⟩
 rw [hCH] at P0 CS; rw [hTM] at P2 CE
 have HO := Lib.hid ho; have HFI := Lib.hid hfit; have HSK := Lib.hid hsk
 replace CR := Lib.hid CR; replace CI := Lib.hid CI; replace CN := Lib.hid CN; replace CE := Lib.hid CE; replace CS := Lib.hid CS; replace P0 := Lib.hid P0; replace P2 := Lib.hid P2
 have O := OwF.start (fun _ => False) w0
 clear hr hn1 hn2 hs hex hCH hTM hof hfit hnow ho hR hfin hsk hrl
 go_enter Tryz.func35, Tryz.ntmps35
 go_upto_region 1 with (first | ((with_reducible refine @wpList_at _ _ _ _ _ _ _ (.box 31 (.tmp 0)) rfl ?_); refine @wpList_of_box _ _ _ _ _ _ _ _ _ _ 31 (.tmp 0) rfl x.cells rfl O rfl ?_; clear O; intro bx w O) | ((with_reducible refine @wpList_at _ _ _ _ _ _ _ (.box 35 (.tmp 2)) rfl ?_); refine @wpList_of_box _ _ _ _ _ _ _ _ _ _ 35 (.tmp 2) rfl o.cells rfl O rfl ?_; clear O; intro bo w O))
 go_wp2_with (first | ((with_reducible refine @wpList_at _ _ _ _ _ _ _ (.load 35 (.tmp 5)) rfl ?_); refine @wpList_of_whole _ _ _ _ _ _ _ _ _ _ 35 (.tmp 5) rfl O 0 bo rfl o.cells _ rfl _ Tryz.underlying35 rfl sizeOpt rfl ?_))
 refine (CR.out _).mono ?_
 rintro e w ⟨rfl, g⟩
 replace O := O.call g
 clear g
 cases r with
 | false =>
  have hv := HB.out; rw [if_pos rfl] at hv; replace HB := Lib.hid hv; clear hv
  go_wp2_with (fail)
  go_ret2
  exact ⟨O.tch.grown (fun _ h => h.elim), .inl ⟨by rw [HB.out]; decide, by rw [HB.out]; rfl⟩⟩
 | true =>
 have hv := HB.out; rw [if_neg (by decide)] at hv; replace HB := Lib.hid hv; clear hv
 go_wp2_with (fail)
 refine (CN.out _).mono ?_
 rintro e w' ⟨rfl, rfl⟩
 cases n1 with
 | true =>
  have hv := HB.out; rw [if_pos (show (!(true || n2)) = false from rfl)] at hv; replace HB := Lib.hid hv; clear hv
  go_wp2_with (fail)
  go_ret2
  exact ⟨O.tch.grown (fun _ h => h.elim), .inl ⟨by rw [HB.out]; decide, by rw [HB.out]; rfl⟩⟩
 | false =>
 go_wp2_with (fail)
 refine (CI.out _).mono ?_
 rintro e w' ⟨rfl, rfl⟩
 cases n2 with
 | true =>
  have hv := HB.out; rw [if_pos (show (!(false || true)) = false from rfl)] at hv; replace HB := Lib.hid hv; clear hv
  go_wp2_with (fail)
  go_ret2
  exact ⟨O.tch.grown (fun _ h => h.elim), .inl ⟨by rw [HB.out]; decide, by rw [HB.out]; rfl⟩⟩
 | false =>
 have hv := HB.out; rw [if_neg (show ¬ (!(false || false)) = false by decide)] at hv; replace HB := Lib.hid hv; clear hv
 go_wp2_with (first | ((with_reducible refine @wpList_at _ _ _ _ _ _ _ (.load 9 (.tmp 21)) rfl ?_); refine @wpList_of_cell _ _ _ _ _ _ _ _ _ _ 9 (.tmp 21) rfl O 1 bx 0 rfl _ _ rfl _ P0.out _ Tryz.underlying9 rfl rfl ?_) | ((with_reducible refine @wpList_at _ _ _ _ _ _ _ (.load 31 (.tmp 3)) rfl ?_); refine @wpList_of_whole _ _ _ _ _ _ _ _ _ _ 31 (.tmp 3) rfl O 1 bx rfl x.cells _ rfl _ Tryz.underlying31 rfl (sizeLt _ XW.out) rfl ?_))
 refine (CS.out _ (O.tch.grown (fun _ h => h.elim))).mono ?_
 rintro e w ⟨rfl, g⟩
 replace O := O.call g
 clear g
 by_cases c1 : s = 0
 case neg =>
  have hv := HB.out; rw [if_pos c1] at hv; replace HB := Lib.hid hv; clear hv
  have d1 : (s != 0) = true := by simpa using c1
  have HC1 := Lib.hid c1
  clear c1
  go_wp2_with (fail)
  go_ret2
  rw [← HB.out] at HC1 ⊢
  exact ⟨O.tch.grown (fun _ h => h.elim), .inl ⟨HC1.out, rfl⟩⟩
 subst c1
 have hv := HB.out; rw [if_neg (fun h => h rfl)] at hv; replace HB := Lib.hid hv; clear hv
 go_wp2_with (first | ((with_reducible refine @wpList_at _ _ _ _ _ _ _ (.load 35 (.tmp 5)) rfl ?_); refine @wpList_of_whole _ _ _ _ _ _ _ _ _ _ 35 (.tmp 5) rfl O 0 bo rfl o.cells _ rfl _ Tryz.underlying35 rfl sizeOpt rfl ?_) | ((with_reducible refine @wpList_at _ _ _ _ _ _ _ (.load 3 (.tmp 29)) rfl ?_); refine @wpList_of_cell _ _ _ _ _ _ _ _ _ _ 3 (.tmp 29) rfl O 1 bx 2 rfl _ _ rfl _ P2.out _ Tryz.underlying3 rfl rfl ?_))
 refine (CE.out _).mono ?_
 rintro e w ⟨rfl, g⟩
 replace O := O.call g
 clear g
 cases ex with
 | true =>
  have hv := HB.out; rw [if_pos rfl] at hv; replace HB := Lib.hid hv; clear hv
  go_wp2_with (fail)
  go_ret2
  exact ⟨O.tch.grown (fun _ h => h.elim), .inl ⟨by rw [HB.out]; decide, by rw [HB.out]; rfl⟩⟩
 | false =>
 have hv := HB.out; rw [if_neg (by decide)] at hv; replace HB := Lib.hid hv; clear hv
 go_upto_region 10 with (fail)
 replace O := O.drew
 have H0 := Lib.hid (O.tch.size)
 refine wp_region_J (rdf [(0, bo, 0, o.cells), (1, bx, 0, x.cells)]) [2, 3, 5] (by kernel_rfl) (RdA.cons (O.row_of (g := bo) (T := 35) (by simp)) (RdA.cons (O.row_of (g := bx) (T := 31) (by simp)) RdA.nil)) (fun hH => ?_)
 refine jr 0 0 ((.agg (o.cells).toArray)) rfl rfl (yieldsIf_load_mid (by rfl) 35 _ rfl bo 0 rfl o.cells _ (fun W h => h) Tryz.underlying35 rfl sizeOpt) (Still.all hH) ?_
 simp only [Act.put, jq1, jq3, jq4, jq5, jq6]
 refine jr 1 1 ((.agg (x.cells).toArray)) rfl rfl (yieldsIf_load_mid (by rfl) 31 _ rfl bx 0 rfl x.cells _ (fun W h => h) Tryz.underlying31 rfl (sizeLt _ XW.out)) (Still.all hH) ?_
 simp only [Act.put, jq1, jq2, jq3, jq4, jq5, jq6]
 refine wpAnyJ_ready (rs := [2]) (by kernel_rfl) (by simp) ?_
 refine AllJ.keep rfl (by rfl) (by rfl) (fun K hK => ?_) (AllJ.nil)
 refine wp_call 73 _ _ (by rfl) (enters Tryz.func73 (by kernel_rfl) rfl) (by rfl) (CC1.out _ (O.tch.grown (fun _ h => h.elim))) ?_
 rintro e u1 ⟨y, rfl, hy, iy, g1⟩
 refine ⟨_, rfl, ?_⟩
 replace O := O.call g1
 have YW := Lib.hid (hy.wf HFI.out.wf)
 have HY1 := Lib.hid hy; have HI1 := Lib.hid iy; have HZ1 := Lib.hid g1.size
 have G1 := Lib.hid (O.tch.grown (fun _ h => h.elim))
 replace O := OwF.start (fun _ => False) u1
 clear hy iy
 simp only [Act.put, jq1, jq2, jq3, jq4, jq5, jq6]
 refine hK.out _ _ (RdA.grown hH g1) ?_
 replace hH := RdA.grown hH g1
 clear hK K
 refine wpAnyJ_ready (rs := [3]) (by kernel_rfl) (by simp) ?_
 refine AllJ.keep rfl (by rfl) (by rfl) (fun K hK => ?_) (AllJ.nil)
 refine wp_of_slice1 70 _ rfl y.cells rfl 31 _ 200 Tryz.underlying70 light_inf2 (y.cells_length YW.out) (by decide) O ?_
 clear O
 intro b8 u2 g2 O
 simp only [Act.put, jq1, jq2, jq3, jq4, jq5, jq6]
 refine hK.out _ _ (RdA.grown hH g2) ?_
 replace hH := RdA.grown hH g2
 clear hK K
 refine jp 4 ((.agg ([.float .f64 o.level, .float .f64 o.period, .float .f64 o.drift, .slice (some ⟨b8, 0, none⟩) 1 1, .slice none 0 0, .int .i64 0, .int .i64 0, .int .i64 (-1)] : List Value).toArray)) (Still.all hH) ?_ (hy := (Or.inl ⟨by rfl, fun W _ => run_build_op2 125 _ rfl [(0, .agg o.cells.toArray), (1, .slice (some ⟨b8, 0, none⟩) 1 1), (5, .int .i64 (-1))] (by kernel_rfl) [.float .f64 o.level, .float .f64 o.period, .float .f64 o.drift, .slice (some ⟨b8, 0, none⟩) 1 1, .slice none 0 0, .int .i64 0, .int .i64 0, .int .i64 (-1)] (bClient o.level o.period o.drift (some ⟨b8, 0, none⟩) 1 1)⟩))
 simp only [Act.put, jq1, jq2, jq3, jq4, jq5, jq6]
 refine wpAnyJ_ready (rs := [5]) (by kernel_rfl) (by simp) ?_
 refine AllJ.keep rfl (by rfl) (by rfl) (fun K hK => ?_) (AllJ.nil)
 refine wp_of_box 125 _ rfl [.float .f64 o.level, .float .f64 o.period, .float .f64 o.drift, .slice (some ⟨b8, 0, none⟩) 1 1, .slice none 0 0, .int .i64 0, .int .i64 0, .int .i64 (-1)] rfl O ?_
 clear O
 intro b9 u3 g3 O
 skip
 simp only [Act.put, jq1, jq2, jq3, jq4, jq5, jq6]
 refine hK.out _ _ (RdA.grown hH g3) ?_
 replace hH := RdA.grown hH g3
 clear hK K
 refine jp 6 ((.pointer (some ⟨b9, 0, none⟩))) (Still.all hH) ?_
 simp only [Act.put, jq1, jq2, jq3, jq4, jq5, jq6]
 refine jp 7 ((.int .i64 0)) (Still.all hH) ?_
 simp only [Act.put, jq1, jq2, jq3, jq4, jq5, jq6]
 refine wpAnyJ_done (by kernel_rfl) ?_ _
 clear hH
 go_wp2_with fail
 go_ret2
 have g9 := Lib.grownBy_trans G1.out (O.tch.grown (fun _ h => h.elim))
 have hy2 := HY1.out.up (O.tch.grown (fun _ h => h.elim)) (Nat.le_refl _)
 have zz := H0.out; have z1 := HZ1.out; have z3 := O.tch.size
 have l9 := (O.lie 0 rfl).resolve_right id; have l8 := (O.lie 1 rfl).resolve_right id
 have hrl := HRL.out
 have e8 : ∀ b, (Value.slice (some ⟨b8, 0, none⟩) 1 1).ownBlock = some b → b = b8 := fun b e => by injection e with e; exact e.symm
 have hft : ∀ b, Foot b9 (.slice (some ⟨b8, 0, none⟩) 1 1) (.slice none 0 0) b → u1.heap.size ≤ b := fun b hb => by
  rcases hb with hb | hb | hb
  ·omega
  ·have := e8 b hb; omega
  ·cases hb
 refine ⟨g9, .inr ⟨HB.out, b9, .slice (some ⟨b8, 0, none⟩) 1 1, fun b => (w.drew.heap.size ≤ b ∧ b < u1.heap.size) ∨ b = 1, rfl, ⟨O.at_ 0 rfl, LRow.one (O.at_ 1 rfl) (hy2) (HI1.out.mono (fun b hb => .inl hb)) HFI.out, LRow.nil _ _, ?_, by simp [Value.ownBlock], fun b _ => by simp [Value.ownBlock], ?_, new_ok HO.out (HSK.out (by trivial))⟩, ?_, ?_, .inr rfl⟩⟩
 ·intro e
  have := e8 b9 e
  exact O.ne (i := 0) (j := 1) rfl rfl (by decide) this
 ·intro b hb
  rcases hb with hb | hb
  ·exact ⟨by omega, by omega, fun e => by have := e8 b e; omega, by simp [Value.ownBlock]⟩
  ·exact ⟨by omega, by omega, fun e => by have := e8 b e; omega, by simp [Value.ownBlock]⟩
 ·intro b hb
  have := hft b hb; omega
 ·intro b hb
  rcases hb with hb | hb
  ·exact .inl (by omega)
  ·exact .inr hb
set_option maxHeartbeats 8000000 in
theorem alive16_ok (w0 : World) (hR : RowAt w0 1 0 (wCells rootsL)) : Calls Tryz.prog 33 #[] w0 fun e w' => e = .returned (.bool true) ∧ w0.grownBy w' none := by
 have C1 := Lib.hid (fun w => one16_ok 1 z32 w (by decide) rfl)
 have C2 := Lib.hid (fun w => one16_ok 4 z32 w (by decide) rfl)
 have CO := Lib.hid (fun w => options_ok w)
 have HR := Lib.hid hR
 clear hR
 go_enter Tryz.func33, Tryz.ntmps33
 go_wp2_with (refine wpList_build_eq rfl 23 _ rfl [] (by kernel_rfl) ZH bHash0 ?_)
 refine (C1.out _).mono ?_
 rintro e w1 ⟨xa, rfl, ha, _, g1⟩
 have HA := Lib.hid (show xa.of w1.heap.size w1 a16 from ha)
 have G1 := Lib.hid g1
 clear ha g1
 go_wp2_with fail
 refine (CO.out _).mono ?_
 rintro e w2 ⟨rfl, g2⟩
 have G2 := Lib.hid (Lib.grownBy_trans G1.out g2)
 have CN := Lib.hid (New_ok2 xa a16 4624633867356078080 opt16 w2 (HA.out.up g2 (Nat.le_refl _)) a16_fit (by decide) opt16_wf (HR.out.grown G2.out (by simp)))
 clear g2
 go_wp2_with fail
 refine CN.out.mono ?_
 rintro e w3 ⟨g3, hN⟩
 rcases hN with ⟨h, _⟩ | ⟨_, p, sv, I, rfl, r3, f3, i3, ir⟩
 ·exact absurd new16 h
 have G3 := Lib.hid (Lib.grownBy_trans G2.out g3)
 have CG := Goal_ok r3 4
 rw [goal16] at CG
 replace CG := Lib.hid CG
 have z2 : w0.heap.size ≤ w2.heap.size := G2.out.size
 have F3 := Lib.hid (show ∀ b, Foot p sv (.slice none 0 0) b → w0.heap.size ≤ b from fun b hb => Nat.le_trans z2 (f3 b hb))
 have IR := Lib.hid ir
 clear g3 r3 f3 i3 ir z2
 go_wp2_with fail
 refine CG.out.mono ?_
 rintro e w4 ⟨rfl, sv4, pv4, r4, t4, f4⟩
 have CW := Lib.hid (Want_ok r4)
 have R4 := Lib.hid r4; have T4 := Lib.hid ((Tch.of_grown (F := fun _ => False) G3.out).trans t4 (fun b hb hl => absurd (F3.out b hb) (by omega)))
 have F4 := Lib.hid (show ∀ b, Foot p sv4 pv4 b → w0.heap.size ≤ b from fun b hb => (f4 b hb).elim (F3.out b) (fun h => Nat.le_trans G3.out.size h))
 clear r4 t4 f4
 go_wp2_with fail
 refine CW.out.mono ?_
 rintro e w5 ⟨rfl, g5⟩
 have R5 := Lib.hid (R4.out.grown g5); have T5 := Lib.hid (T4.out.trans (Tch.of_grown (F := fun _ => False) g5) (fun _ h _ => h))
 clear g5
 go_wp2_with (refine wpList_build_eq rfl 23 _ rfl [] (by kernel_rfl) ZH bHash0 ?_)
 refine (C2.out _).mono ?_
 rintro e w6 ⟨xb, rfl, hb, ib, g6⟩
 have R6 := Lib.hid (R5.out.grown g6); have T6 := Lib.hid (T5.out.trans (Tch.of_grown (F := fun _ => False) g6) (fun _ h _ => h))
 have G6 := Lib.hid (T6.out.grown (fun _ h => h.elim))
 have CV := Give_ok R6.out xb b16 hb b16_fit (fun b => w5.heap.size ≤ b) ib (fun b hb hf => by have := R5.out.lt hf; omega) 4631530004285489152 (by decide) (HR.out.grown G6.out (by simp)) IR.out (by decide)
 rw [give16] at CV
 replace CV := Lib.hid CV
 clear hb ib g6
 go_wp2_with fail
 refine CV.out.mono ?_
 rintro e w7 ⟨rfl, I7, _, _, sv7, pv7, r7, t7, f7⟩
 have R7 := Lib.hid r7
 have T7 := Lib.hid (T6.out.trans t7 (fun b hb hl => absurd (F4.out b hb) (by omega)))
 have C7 := Lib.hid (Want_ok r7)
 clear r7 t7 f7
 go_wp2_with fail
 refine C7.out.mono ?_
 rintro e w8 ⟨rfl, g8⟩
 have R8 := Lib.hid (R7.out.grown g8); have T8 := Lib.hid (T7.out.trans (Tch.of_grown (F := fun _ => False) g8) (fun _ h _ => h))
 have C8 := Lib.hid (Store_ok R8.out)
 clear g8
 go_wp2_with fail
 refine C8.out.mono ?_
 rintro e w9 ⟨a9, n9, k9, rfl, g9, J9, _, hl9, _⟩
 obtain ⟨xs9, hs9, hx9, _⟩ := hl9
 have hn9 : n9 = 2 := by
  obtain ⟨a, c, e, _⟩ := hs9.shape
  have e2 := (Value.slice.inj e).2.1
  clear e
  rw [e2, hx9]; simp only [List.length_cons, List.length_nil]
 have d9 : ((n9 : Int) == 2) = true := by rw [hn9]; rfl
 clear hn9
 have T9 := Lib.hid (T8.out.trans (Tch.of_grown (F := fun _ => False) g9) (fun _ h _ => h))
 have C9 := Lib.hid (Fetches_ok (R8.out.grown g9))
 clear g9 hs9 hx9
 go_wp2_with fail
 refine C9.out.mono ?_
 rintro e w10 ⟨rfl, g10⟩
 have T10 := Lib.hid (T9.out.trans (Tch.of_grown (F := fun _ => False) g10) (fun _ h _ => h))
 clear g10
 go_wp2_with fail
 go_ret
 exact ⟨rfl, T10.out.grown (fun _ h => h.elim)⟩
end Go.Proofs.YtdhchehagfmjcaaGreatDoor
