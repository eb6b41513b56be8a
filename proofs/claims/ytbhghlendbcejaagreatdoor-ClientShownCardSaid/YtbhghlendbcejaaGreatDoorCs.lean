/- Light blocks whose lists lie in blocks of I; rows of them; slices.Clone of seals and validators (a part of Bs, by prune.py). -/
import Derived.Test.YtbhghlendbcejaaGreatDoorVf
import Derived.Test.YtbhghlendbcejaaGreatDoorDrw
import Derived.Test.YtbhghlendbcejaaGreatDoorLx
import Derived.Test.YtbhghlendbcejaaGreatDoorAl
import Derived.Test.YtbhghlendbcejaaGreatDoorTs
namespace Go.Proofs.YtbhghlendbcejaaGreatDoor
open Go.RowKit
set_option maxRecDepth 100000

structure BcD where
  o : OptD
  store : List LightD
  pend : List LightD
  want : Int
  fet : Int
  frm : Int
def zeroL : LightD := ⟨⟨⟨#[]⟩, 0, 0, List.replicate 32 0, List.replicate 32 0, List.replicate 32 0, List.replicate 32 0, List.replicate 32 0⟩, ⟨0, 0, List.replicate 32 0, []⟩, [], []⟩
def lastB (l : List LightD) : LightD := (l.getLast?).getD zeroL
def BcD.new (root : LightD) (o : OptD) : BcD := ⟨o, [root], [], 0, 0, -1⟩
def BcD.drop (c : BcD) : BcD := { c with pend := [], want := 0 }
/-- a block's height may be -/
def hOk (l : LightD) : Prop := 1 ≤ l.header.height ∧ l.header.height ≤ 1099511627776
/-! heights -/
def hL (l : LightD) : Int := l.header.height
/-! light blocks whose lists lie in blocks of I -/
section
variable {B n k : Nat} {w w' : World} {v : Value} {cs : List Value} {G I J : Nat → Prop} {x : LtR} {l : LightD} {ls : List LightD}
theorem RdS.tch (h : RdS B w v n k cs) (t : Tch G w w') (hv : ∀ a c, n ≠ 0 → v = .slice (some a) n c → ¬ G a.block) : RdS B w' v n k cs := by
  obtain ⟨ao, c, h1, h2, h3, h4, h5 | ⟨g, o, e, hg, hr⟩⟩ := h
  · exact ⟨ao, c, h1, h2, h3, h4, .inl h5⟩
  · subst e
    by_cases hn : n = 0
    · exact ⟨_, c, h1, h2, h3, h4, .inl hn⟩
    · exact ⟨_, c, h1, h2, h3, h4, .inr ⟨g, o, rfl, hg, t.row hr (hv _ c hn h1)⟩⟩
def LtR.inn (I : Nat → Prop) (x : LtR) : Prop := (∀ a, x.sn ≠ 0 → x.sa = some a → I a.block) ∧ (∀ a, x.tn ≠ 0 → x.ta = some a → I a.block) ∧ ∀ a, x.nn ≠ 0 → x.na = some a → I a.block
theorem LtR.inn.mono (h : x.inn I) (hI : ∀ b, I b → J b) : x.inn J := ⟨fun a h1 h2 => hI _ (h.1 a h1 h2), fun a h1 h2 => hI _ (h.2.1 a h1 h2), fun a h1 h2 => hI _ (h.2.2 a h1 h2)⟩
theorem rds_in {a : Option Addr} {m c : Nat} (h : RdS B w (.slice a m c) n k cs) : ∀ d, m ≠ 0 → a = some d → d.block < B := by
  obtain ⟨ao, c', e, _, _, _, h5 | ⟨g, o, e2, hg, _⟩⟩ := h
  · injection e with e1 e2 e3
    intro d hd; omega
  · injection e with e1 e3 e4
    subst e1 e2
    intro d _ hd
    injection hd with hd
    subst hd; exact hg
theorem LtR.of.inn (h : x.of B w l) : x.inn (· < B) := ⟨rds_in h.seals, rds_in h.set, rds_in h.next⟩
theorem LtR.of.tch (h : x.of B w l) (t : Tch G w w') (hi : x.inn I) (hG : ∀ b, I b → ¬ G b) : x.of B w' l :=
  ⟨h.header, h.height, h.round, h.block, h.seals.tch t (fun a c hn e => by injection e with e1 e2 e3; exact hG _ (hi.1 a (by omega) e1)),
    h.set.tch t (fun a c hn e => by injection e with e1 e2 e3; exact hG _ (hi.2.1 a (by omega) e1)), h.next.tch t (fun a c hn e => by injection e with e1 e2 e3; exact hG _ (hi.2.2 a (by omega) e1))⟩
/-- a light block that may be given -/
structure LightD.fit (l : LightD) : Prop where
  wf : l.wf
  seals : l.commit.seals.length ≤ 20
  set : l.set.length ≤ 20
  next : l.next.length ≤ 20
  chain : l.header.chain.size ≤ 140737488351232
/-- this value is a row of these light blocks -/
def LRow (I : Nat → Prop) (w : World) (v : Value) (ls : List LightD) : Prop :=
  ∃ xs : List LtR, SRow w 31 200 v xs.length (ltsCells xs) ∧ xs.length = ls.length ∧ ∀ (i : Nat) (x : LtR) (l : LightD), xs[i]? = some x → ls[i]? = some l → x.of w.heap.size w l ∧ x.inn I ∧ l.fit
theorem LRow.nil (I : Nat → Prop) (w : World) : LRow I w (.slice none 0 0) [] := ⟨[], SRow.nil _ _ _, rfl, fun i x l h _ => by simp at h⟩
theorem LRow.tch (h : LRow I w v ls) (t : Tch G w w') (h1 : ∀ b, v.ownBlock = some b → ¬ G b) (h2 : ∀ b, I b → ¬ G b) : LRow I w' v ls := by
  obtain ⟨xs, a1, a2, a3⟩ := h
  exact ⟨xs, a1.tch t h1, a2, fun i x l hx hl => by
    obtain ⟨b1, b2, b3⟩ := a3 i x l hx hl
    exact ⟨(b1.tch t b2 h2).mono t.size, b2, b3⟩⟩
theorem LRow.grown (h : LRow I w v ls) (t : w.grownBy w' none) : LRow I w' v ls := h.tch (G := fun _ => False) (Tch.of_grown t) (fun _ _ hf => hf) (fun _ _ hf => hf)
theorem LRow.mono (h : LRow I w v ls) (hI : ∀ b, I b → J b) : LRow J w v ls := by
  obtain ⟨xs, a1, a2, a3⟩ := h
  exact ⟨xs, a1, a2, fun i x l hx hl => by obtain ⟨b1, b2, b3⟩ := a3 i x l hx hl; exact ⟨b1, b2.mono hI, b3⟩⟩
theorem LRow.shape (h : LRow I w v ls) : ∃ a c, v = .slice a ls.length c ∧ ls.length ≤ c ∧ c ≤ maxLen := by
  obtain ⟨xs, a1, a2, _⟩ := h
  rw [← a2]; exact a1.shape
theorem LRow.lt {b : Nat} (h : LRow I w v ls) (hb : v.ownBlock = some b) : b < w.heap.size := by obtain ⟨xs, a1, _⟩ := h; exact a1.lt hb
theorem LRow.fit (h : LRow I w v ls) : ∀ l ∈ ls, l.fit := by
  obtain ⟨xs, _, a2, a3⟩ := h
  intro l hl
  obtain ⟨i, hi, rfl⟩ := List.getElem_of_mem hl
  exact (a3 i xs[i] ls[i] (List.getElem?_eq_getElem (by omega)) (List.getElem?_eq_getElem hi)).2.2
theorem lts_len (xs : List LtR) (h : ∀ x ∈ xs, x.wf) : ∀ d ∈ xs, d.cells.length = 200 := fun d hd => d.cells_length (h d hd)
theorem LRow.wfs {xs : List LtR} (hl : xs.length = ls.length) (h : ∀ (i : Nat) (x : LtR) (l : LightD), xs[i]? = some x → ls[i]? = some l → x.of w.heap.size w l ∧ x.inn I ∧ l.fit) : ∀ x ∈ xs, x.wf := by
  intro x hx
  obtain ⟨i, hi, rfl⟩ := List.getElem_of_mem hx
  obtain ⟨b1, _, b3⟩ := h i xs[i] ls[i] (List.getElem?_eq_getElem hi) (List.getElem?_eq_getElem (by omega))
  exact b1.wf b3.wf
/-- one of them -/
theorem LRow.get (h : LRow I w v ls) (i : Nat) (hi : i < ls.length) : ∃ g o c, ∃ x : LtR, v = .slice (some ⟨g, o, none⟩) ls.length c ∧ ls.length ≤ c ∧ c ≤ maxLen ∧ g < w.heap.size ∧ RowAt w g (o + i * 200) x.cells ∧ x.of w.heap.size w ls[i] ∧ x.inn I ∧ ls[i].fit := by
  obtain ⟨xs, a1, a2, a3⟩ := h
  obtain ⟨g, o, c, hv, h1, h2, h3, h4⟩ := a1.at_ (by omega)
  have hi' : i < xs.length := by omega
  obtain ⟨b1, b2, b3⟩ := a3 i xs[i] ls[i] (List.getElem?_eq_getElem hi') (List.getElem?_eq_getElem hi)
  exact ⟨g, o, c, xs[i], by rw [hv, a2], by omega, h2, h3, h4.elem (lts_len xs (LRow.wfs a2 a3)) i hi', b1, b2, b3⟩
theorem flat_take {D : Type} (f : D → List Value) (k : Nat) : ∀ (ds : List D) (m : Nat), (∀ d ∈ ds, (f d).length = k) → (ds.flatMap f).take (m * k) = (ds.take m).flatMap f
  | [], m, _ => by simp
  | d :: ds, 0, _ => by simp
  | d :: ds, m + 1, h => by
    have hd := h d (by simp)
    rw [List.flatMap_cons, List.take_succ_cons, List.flatMap_cons, show (m + 1) * k = (f d).length + m * k by rw [hd, Nat.add_mul]; omega, List.take_append, List.take_of_length_le (by omega), Nat.add_sub_cancel_left,
      flat_take f k ds m (fun d hd => h d (by simp [hd]))]
theorem flat_drop {D : Type} (f : D → List Value) (k : Nat) : ∀ (ds : List D) (m : Nat), (∀ d ∈ ds, (f d).length = k) → (ds.flatMap f).drop (m * k) = (ds.drop m).flatMap f
  | [], m, _ => by simp
  | d :: ds, 0, _ => by simp
  | d :: ds, m + 1, h => by
    have hd := h d (by simp)
    rw [List.flatMap_cons, List.drop_succ_cons, show (m + 1) * k = (f d).length + m * k by rw [hd, Nat.add_mul]; omega, ← List.drop_drop, List.drop_left,
      flat_drop f k ds m (fun d hd => h d (by simp [hd]))]
theorem LRow.cut {g o c m : Nat} (h : LRow I w (.slice (some ⟨g, o, none⟩) ls.length c) ls) (hm : m ≤ ls.length) : LRow I w (.slice (some ⟨g, o, none⟩) m c) (ls.take m) := by
  obtain ⟨xs, a1, a2, a3⟩ := h
  rw [← a2] at a1
  have hs := a1.cut (m := m) (by omega)
  unfold ltsCells at hs
  rw [flat_take LtR.cells 200 xs m (lts_len xs (LRow.wfs a2 a3))] at hs
  refine ⟨xs.take m, by rw [List.length_take, Nat.min_eq_left (by omega)]; exact hs, by rw [List.length_take, List.length_take, a2], fun i x l hx hl => ?_⟩
  rw [List.getElem?_take] at hx hl
  split at hx
  · rw [if_pos ‹_›] at hl; exact a3 i x l hx hl
  · cases hx
theorem LRow.drop {g o c m : Nat} (h : LRow I w (.slice (some ⟨g, o, none⟩) ls.length c) ls) (hm : m ≤ ls.length) : LRow I w (.slice (some ⟨g, o + m * 200, none⟩) (ls.length - m) (c - m)) (ls.drop m) := by
  obtain ⟨xs, a1, a2, a3⟩ := h
  rw [← a2] at a1
  have hs := a1.drop (m := m) (by omega)
  unfold ltsCells at hs
  rw [flat_drop LtR.cells 200 xs m (lts_len xs (LRow.wfs a2 a3)), a2] at hs
  refine ⟨xs.drop m, by rw [List.length_drop, a2]; exact hs, by rw [List.length_drop, List.length_drop, a2], fun i x l hx hl => ?_⟩
  rw [List.getElem?_drop] at hx hl
  exact a3 _ x l hx hl
end
open Go.RowKit Go.Shelf

section
variable {P : Program} {ρ : Ren}
set_option maxHeartbeats 2000000 in
/-- an empty slice that is not nil, wherever it points to -/
theorem clone_empty (L : SlLaysE0.n41 P ρ) (i0 : TypeInfo) (z : Value) (size bytes : Nat) (hi : P.info? (ρ.t 23) = some i0) (hz0 : i0.zero = some z) (hz1 : i0.size = size) (hz2 : i0.bytes = bytes) (hzs : z.cells.size = size) (hsz : 0 < size)
    (z23 : ∀ w, (Go.sizeOf (ρ.t 23)).run P w = .ok size w) (b : Addr) (c : Nat) (w : World) :
    Calls P (ρ.f 41) #[.slice (some b) 0 c] w fun e w' => ∃ v', e = .returned v' ∧ w'.ownsRow w.heap.size (ρ.t 23) size v' 0 [] ∧ Below w.heap.size w w' := by
  have mixed := L.mixed; have t4 := L.t4; have a4 := L.a4; have z4 := L.z4; have v4 := L.v4; have t22 := L.t22; have a22 := L.a22; have z22 := L.z22; have v22 := L.v22
  have q22 : ∀ (w : World) (a : Option Addr) (n c n' c' : Nat), (binOp .eql (ρ.t 22) (.slice a n c) (.slice none n' c')).run P w = .ok (.bool a.isNone) w := fun w a n c n' c' => Lib.run_eql_slice_nil w _ _ a n c n' c' L.t22
  have u22 : ∀ w, Sem.run P (underlying (ρ.t 22)) w = .ok (TypeDesc.slice (ρ.t 23)) w := run_underlying t22
  obtain ⟨_, _, FG⟩ := L.f41
  go_enter FG, SlBodyN.n41_ntmps ρ
  go_wp2_with (at_builtin; refine wpList_append_own _ rfl _ _ (ρ.t 22) rfl w.heap.size (ρ.t 23) i0 z size bytes t22 hi hz0 hz1 hz2 hzs hsz _ _ _ rfl (World.ownsRow_made w #[] 0 (Nat.le_refl _) (Nat.zero_le _) (by simp)) b 0 c [] rfl ?qc1 ?qc2 ?qc3 ?qc4 ?qc5 ?qc6 ?_)
  case qc1 => simp
  case qc2 =>
    intro j u hj
    simp at hj
  case qc3 => simp
  case qc4 => simp
  case qc5 => simp
  case qc6 => simp
  intro v' w1 hown hgrow _
  go_wp2
  go_ret
  exact ⟨v', rfl, by simpa using hown, ((Below.refl _ w).alloc (Nat.le_refl _) _).grown hgrow (by simp) (by intro k hk; simp [Value.ownBlock] at hk; omega)⟩
theorem owns_rds {w : World} {B e k n : Nat} {v : Value} {cs : List Value} (h : w.ownsRow B e k v n cs) : ∃ a c, v = .slice a n c ∧ RdS w.heap.size w v n k cs ∧ ∀ d, a = some d → B ≤ d.block := by
  obtain ⟨h0, ⟨rfl, rfl⟩ | ⟨g, cap, cur, rfl, hB, hb, h1, h2, h3, h4⟩⟩ := id h
  · exact ⟨none, 0, rfl, ⟨none, 0, rfl, Nat.le_refl _, Nat.zero_le _, h0, .inl rfl⟩, fun d hd => by cases hd⟩
  · refine ⟨_, cap, rfl, ⟨_, cap, rfl, h1, h2, h0, .inr ⟨g, 0, rfl, Lib.lt_of_heap hb, fun j u hj => ?_⟩⟩, fun d hd => by injection hd with hd; subst hd; exact hB⟩
    have := h.cells (g := g) rfl j u hj
    rwa [addr_add] at this
theorem clone_any (L : SlLaysE0.n41 P ρ) (i0 : TypeInfo) (z : Value) (size bytes : Nat) (hi : P.info? (ρ.t 23) = some i0) (hz0 : i0.zero = some z) (hz1 : i0.size = size) (hz2 : i0.bytes = bytes) (hzs : z.cells.size = size) (hsz : 0 < size)
    (z23 : ∀ w, (Go.sizeOf (ρ.t 23)).run P w = .ok size w) {B n : Nat} {a : Option Addr} {m c : Nat} {cs : List Value} (w : World) (hr : RdS B w (.slice a m c) n size cs) (hbig : n * bytes ≤ 140737488355328) (h1 : ∀ u ∈ cs, u.oneCell' = true) :
    Calls P (ρ.f 41) #[.slice a m c] w fun e w' => ∃ a' c', e = .returned (.slice a' n c') ∧ RdS w'.heap.size w' (.slice a' n c') n size cs ∧ (∀ d, a' = some d → w.heap.size ≤ d.block) ∧ w.grownBy w' none := by
  have hgr : ∀ {w' : World}, Below w.heap.size w w' → w.grownBy w' none := fun hb => ⟨hb.os, hb.tape, hb.output, hb.size, fun k hk _ => hb.block k hk⟩
  obtain ⟨ao, c', e, hle, hcm, hl, h5⟩ := hr
  injection e with e1 e2 e3
  subst e1 e2 e3
  rcases h5 with h5 | ⟨g, o, e, hg, hrow⟩
  · subst h5
    have hcs : cs = [] := List.eq_nil_of_length_eq_zero (by simpa using hl)
    subst hcs
    cases a with
    | none =>
      refine (AnyE.slices_Clone_nil L 0 c w).mono ?_
      rintro e w' ⟨rfl, rfl⟩
      exact ⟨none, 0, rfl, ⟨none, 0, rfl, Nat.le_refl _, Nat.zero_le _, by simp, .inl rfl⟩, (fun d hd => by cases hd), World.grownBy.refl _ _⟩
    | some b =>
      refine (clone_empty L i0 z size bytes hi hz0 hz1 hz2 hzs hsz z23 b c w).mono ?_
      rintro e w' ⟨v', rfl, ho, hb⟩
      obtain ⟨a', c', rfl, k1, k2⟩ := owns_rds ho
      exact ⟨a', c', rfl, k1, k2, hgr hb⟩
  · subst e
    refine (AnyE.slices_Clone L i0 z size bytes hi hz0 hz1 hz2 hzs hsz z23 g o m c cs w hl (Nat.le_trans hle hcm) hbig (fun j u hj => hrow j u hj) h1).mono ?_
    rintro e w' ⟨v', rfl, ho, _, hb⟩
    obtain ⟨a', c', rfl, k1, k2⟩ := owns_rds ho
    exact ⟨a', c', rfl, k1, k2, hgr hb⟩
end

def cloneSRen : Go.Shelf.Ren := ⟨fun | 41 => 70 | n => n, fun | 4 => 4 | 3 => 3 | 22 => 26 | 23 => 128 | n => n, fun | n => n⟩
theorem cloneSLays : SlLaysE0.n41 Tryz.prog cloneSRen := {
  mixed := by kernel_rfl
  f41 := ⟨Tryz.f70.name, by decide +kernel, Tryz.func70.trans (congrArg some (by kernel_rfl))⟩
  t4 := Tryz.underlying4
  a4 := Tryz.isAgg4
  z4 := Tryz.sizeOf4
  v4 := Tryz.zeroValue4
  t22 := Tryz.underlying26
  a22 := Tryz.isAgg26
  z22 := Tryz.sizeOf26
  v22 := Tryz.zeroValue26 }
noncomputable def sealI : TypeInfo := (Tryz.prog.info? 128).get (by kernel_rfl)
theorem sealCells_one (ds : List SealD) : ∀ u ∈ sealCells ds, u.oneCell' = true := by
  intro u hu
  obtain ⟨d, _, hd⟩ := List.mem_flatMap.1 hu
  exact SealD_one d u hd
theorem cloneSeals {B n : Nat} {a : Option Addr} {m c : Nat} {ds : List SealD} (w : World) (hr : RdS B w (.slice a m c) n 3 (sealCells ds)) (hn : n ≤ 1000) :
    Calls Tryz.prog 70 #[.slice a m c] w fun e w' => ∃ a' c', e = .returned (.slice a' n c') ∧ RdS w'.heap.size w' (.slice a' n c') n 3 (sealCells ds) ∧ (∀ d, a' = some d → w.heap.size ≤ d.block) ∧ w.grownBy w' none :=
  clone_any cloneSLays sealI (.agg ZSeal.toArray) 3 24 (by kernel_rfl) (by kernel_rfl) (by kernel_rfl) (by kernel_rfl) rfl (by decide) Tryz.sizeOf128 w hr (by omega) (sealCells_one ds)
theorem cloneVals {B n : Nat} {a : Option Addr} {m c : Nat} {ds : List ValD} (w : World) (hr : RdS B w (.slice a m c) n 2 (setCells ds)) (hn : n ≤ 1000) :
    Calls Tryz.prog 71 #[.slice a m c] w fun e w' => ∃ a' c', e = .returned (.slice a' n c') ∧ RdS w'.heap.size w' (.slice a' n c') n 2 (setCells ds) ∧ (∀ d, a' = some d → w.heap.size ≤ d.block) ∧ w.grownBy w' none :=
  clone_any cloneLays valI (.agg #[.int .u64 0, .int .i64 0]) 2 16 (by kernel_rfl) (by kernel_rfl) (by kernel_rfl) (by kernel_rfl) rfl (by decide) Tryz.sizeOf131 w hr (by omega) (setCells_one ds)

/-- the same, of other lists -/
def LtR.lists (x : LtR) (a1 : Option Addr) (n1 c1 : Nat) (a2 : Option Addr) (n2 c2 : Nat) (a3 : Option Addr) (n3 c3 : Nat) : LtR := { x with sa := a1, sn := n1, sc := c1, ta := a2, tn := n2, tc := c2, na := a3, nn := n3, nc := c3 }
theorem LtR.put_lists {x : LtR} (hx : x.wf) (a1 : Option Addr) (n1 c1 : Nat) (a2 : Option Addr) (n2 c2 : Nat) (a3 : Option Addr) (n3 c3 : Nat) :
    ((x.cells.set 197 (.slice a1 n1 c1)).set 198 (.slice a2 n2 c2)).set 199 (.slice a3 n3 c3) = (x.lists a1 n1 c1 a2 n2 c2 a3 n3 c3).cells := by
  have h1 := x.header.cells_length hx.header
  have h2 := x.mid_length hx
  unfold LtR.cells LtR.lists
  dsimp only
  have key : ∀ (p q : List Value) (v : Value) (k n : Nat), p.length = n → n ≤ k → (p ++ q).set k v = p ++ q.set (k - n) v := fun p q v k n hp hk => by
    rw [List.set_append_right _ _ (by omega), hp]
  rw [key _ _ _ 197 163 h1 (by omega), key _ _ _ 34 34 h2 (by omega), key _ _ _ 198 163 h1 (by omega), key _ _ _ 35 34 h2 (by omega), key _ _ _ 199 163 h1 (by omega), key _ _ _ 36 34 h2 (by omega)]
  rfl
def bcCells (c : BcD) (sv pv : Value) : List Value := c.o.cells ++ [sv, pv, .int .i64 c.want, .int .i64 c.fet, .int .i64 c.frm]
structure BcD.ok (c : BcD) : Prop where
  o : c.o.wf
  some : c.store ≠ []
  want : 0 ≤ c.want ∧ c.want ≤ 1099511627776
  fet : 0 ≤ c.fet ∧ c.fet ≤ 200
  frm : -1 ≤ c.frm ∧ c.frm < c.store.length
  room : c.store.length + c.pend.length ≤ 100000
  height : ∀ l ∈ c.store, hOk l
/-- the client lies in block p, what it trusts at sv, what pends at pv; the lists of those blocks in blocks of I -/
structure BcRep (T : TypeId) (I : Nat → Prop) (w : World) (p : Nat) (sv pv : Value) (c : BcD) : Prop where
  blk : Blk w p (bcCells c sv pv) T
  store : LRow I w sv c.store
  pend : LRow I w pv c.pend
  ps : sv.ownBlock ≠ some p
  pp : pv.ownBlock ≠ some p
  sp : ∀ b, sv.ownBlock = some b → pv.ownBlock ≠ some b
  out : ∀ b, I b → b < w.heap.size ∧ b ≠ p ∧ sv.ownBlock ≠ some b ∧ pv.ownBlock ≠ some b
  ok : c.ok
/-- the blocks that it may write -/
def Foot (p : Nat) (sv pv : Value) (b : Nat) : Prop := b = p ∨ sv.ownBlock = some b ∨ pv.ownBlock = some b
section
variable {T : TypeId} {I J G : Nat → Prop} {w w' : World} {p : Nat} {sv pv : Value} {c c' : BcD}
theorem BcRep.tch (h : BcRep T I w p sv pv c) (t : Tch G w w') (hG : ∀ b, G b → b < w.heap.size → ¬ Foot p sv pv b ∧ ¬ I b) : BcRep T I w' p sv pv c := by
  have t' : Tch (fun b => G b ∧ b < w.heap.size) w w' := t.mono (fun b hb hl => ⟨hb, hl⟩)
  have hg : ∀ b, (G b ∧ b < w.heap.size) → ¬ Foot p sv pv b ∧ ¬ I b := fun b hb => hG b hb.1 hb.2
  exact ⟨t'.blk h.blk (fun hb => (hg _ hb).1 (.inl rfl)), h.store.tch t' (fun b hb hb2 => (hg _ hb2).1 (.inr (.inl hb))) (fun b hb hb2 => (hg _ hb2).2 hb),
    h.pend.tch t' (fun b hb hb2 => (hg _ hb2).1 (.inr (.inr hb))) (fun b hb hb2 => (hg _ hb2).2 hb), h.ps, h.pp, h.sp, fun b hb => ⟨Nat.lt_of_lt_of_le (h.out b hb).1 t.size, (h.out b hb).2⟩, h.ok⟩
theorem BcRep.grown (h : BcRep T I w p sv pv c) (g : w.grownBy w' none) : BcRep T I w' p sv pv c := h.tch (G := fun _ => False) (Tch.of_grown g) (fun _ hf => hf.elim)
theorem BcRep.lt {b : Nat} (h : BcRep T I w p sv pv c) (hb : Foot p sv pv b) : b < w.heap.size := by
  rcases hb with rfl | hb | hb
  · exact h.blk.lt
  · exact h.store.lt hb
  · exact h.pend.lt hb
/-- other cells of its own; what pends may be dropped -/
theorem BcRep.put {pv' : Value} (h : BcRep T I w p sv pv c) (t : Tch (fun b => b = p) w w') (hb : Blk w' p (bcCells c' sv pv') T) (hs : c'.store = c.store) (hp : (pv' = pv ∧ c'.pend = c.pend) ∨ (pv' = .slice none 0 0 ∧ c'.pend = [])) (ok : c'.ok) : BcRep T I w' p sv pv' c' := by
  have e2 : ∀ b, I b → ¬ b = p := fun b hb => (h.out b hb).2.1
  have hst : LRow I w' sv c'.store := by rw [hs]; exact h.store.tch t (fun b hb e => h.ps (e ▸ hb)) e2
  rcases hp with ⟨rfl, hp⟩ | ⟨rfl, hp⟩
  · exact ⟨hb, hst, by rw [hp]; exact h.pend.tch t (fun b hb e => h.pp (e ▸ hb)) e2, h.ps, h.pp, h.sp, fun b hb => ⟨Nat.lt_of_lt_of_le (h.out b hb).1 t.size, (h.out b hb).2⟩, ok⟩
  · exact ⟨hb, hst, by rw [hp]; exact LRow.nil _ _, h.ps, by simp [Value.ownBlock], fun b _ => by simp [Value.ownBlock], fun b hb => ⟨Nat.lt_of_lt_of_le (h.out b hb).1 t.size, (h.out b hb).2.1, (h.out b hb).2.2.1, by simp [Value.ownBlock]⟩, ok⟩
theorem lastB_at {l : List LightD} {m : Nat} (h : l.length = m + 1) : l[m]'(by omega) = lastB l := by
  unfold lastB
  rw [List.getLast?_eq_getElem?, List.getElem?_eq_getElem (by omega)]
  have e : l.length - 1 = m := by omega
  simp [e]
theorem BcRep.last (h : BcRep T I w p sv pv c) : ∃ m g o cp, ∃ x : LtR, c.store.length = m + 1 ∧ sv = .slice (some ⟨g, o, none⟩) (m + 1) cp ∧ m + 1 ≤ cp ∧ cp ≤ maxLen ∧ RowAt w g (o + m * 200) x.cells ∧ x.of w.heap.size w (lastB c.store) ∧ x.inn I ∧ (lastB c.store).fit := by
  have hp := List.length_pos_iff.2 h.ok.some
  obtain ⟨m, hm⟩ : ∃ m, c.store.length = m + 1 := ⟨c.store.length - 1, by omega⟩
  obtain ⟨g, o, cp, x, hv, h1, h2, _, h3, h4, h5, h6⟩ := h.store.get m (by omega)
  rw [hm] at hv h1
  rw [lastB_at hm] at h4 h6
  exact ⟨m, g, o, cp, x, hm, hv, h1, h2, h3, h4, h5, h6⟩
theorem Blk.cellr {g k : Nat} {cs : List Value} {v : Value} (h : Blk w g cs T) (hv : cs[k]? = some v) : RowAt w g k [v] := by
  have := h.row k v hv
  rw [Nat.zero_add] at this
  exact RowAt.one this
end

theorem BcD.ok.drop {c : BcD} (h : c.ok) : c.drop.ok := ⟨h.o, h.some, ⟨by simp [BcD.drop], by simp [BcD.drop]⟩, h.fet, h.frm, by have := h.room; simp [BcD.drop]; omega, h.height⟩
section
variable {F G : Nat → Prop} {w0 u w : World} {L : List (Nat × List Value × TypeId)} {g : Nat} {cs : List Value} {T : TypeId}
/-- a block that was there, to what was made -/
theorem OwF.join (O : OwF (fun _ => False) w0 w L) (hb : Blk w0 g cs T) (hg : F g) : OwF F w0 w ((g, cs, T) :: L) := by
  have hn : ∀ e ∈ L, w0.heap.size ≤ e.1 := fun e he => (O.ok e he).resolve_right id
  refine ⟨O.tch.mono (fun _ h _ => h.elim), fun e he => ?_, fun e he => ?_, List.Pairwise.cons (fun e he hq => ?_) O.nodup⟩
  · rcases List.mem_cons.1 he with rfl | he
    · exact O.tch.blk hb id
    · exact O.blk e he
  · rcases List.mem_cons.1 he with rfl | he
    · exact .inr hg
    · exact .inl (hn e he)
  · have h1 := hn e he; have h2 := hb.lt
    dsimp only at hq
    omega
end
section
variable {T : TypeId} {I : Nat → Prop} {w u w' : World} {p : Nat} {sv pv sv' : Value} {c c' : BcD} {l : LightD}
/-- behind a call that may touch its blocks alone -/
def BcPost (T : TypeId) (I : Nat → Prop) (w : World) (p : Nat) (sv pv : Value) (c : BcD) (w' : World) : Prop :=
  ∃ sv' pv', BcRep T I w' p sv' pv' c ∧ Tch (Foot p sv pv) w w' ∧ ∀ b, Foot p sv' pv' b → Foot p sv pv b ∨ w.heap.size ≤ b
theorem row_pre {cs ds : List Value} {g : Nat} (h : RowAt w g 0 (cs ++ ds)) : RowAt w g 0 cs := fun j v hj => by
  have hlt := (List.getElem?_eq_some_iff.1 hj).1
  exact h j v (by rw [List.getElem?_append_left hlt]; exact hj)
theorem BcRep.opt (h : BcRep T I w p sv pv c) : RowAt w p 0 c.o.cells := row_pre h.blk.row
end
section
variable {T : TypeId} {I : Nat → Prop} {w w1 w' : World} {p : Nat} {sv pv : Value} {c : BcD}
/-- its own cells alone are otherwise, what pends may be dropped -/
theorem BcPost.own {pv' : Value} {c' : BcD} (h : BcRep T I w' p sv pv' c') (t : Tch (fun b => b = p) w w') (hp : pv' = pv ∨ pv' = .slice none 0 0) : BcPost T I w p sv pv c' w' :=
  ⟨sv, pv', h, t.mono (fun b hb _ => .inl hb), fun b hb => by
    rcases hb with hb | hb | hb
    · exact .inl (.inl hb)
    · exact .inl (.inr (.inl hb))
    · rcases hp with rfl | rfl
      · exact .inl (.inr (.inr hb))
      · cases hb⟩
end
open Go.RowKit Go.Shelf


theorem LRow.one {I : Nat → Prop} {w : World} {g : Nat} {x : LtR} {l : LightD} (hb : Blk w g x.cells 31) (hx : x.of w.heap.size w l) (hi : x.inn I) (hf : l.fit) : LRow I w (.slice (some ⟨g, 0, none⟩) 1 1) [l] := by
  have hl := x.cells_length (hx.wf hf.wf)
  refine ⟨[x], ⟨by simp [ltsCells, hl], .inr ⟨g, 0, 1, x.cells, rfl, hb, Nat.le_refl _, by unfold maxLen; decide, by rw [hl]; decide, ?_⟩⟩, rfl, fun i y m hy hm => ?_⟩
  · simp only [ltsCells, List.flatMap_cons, List.flatMap_nil, List.append_nil, List.drop_zero, List.length_cons, List.length_nil]
    exact List.take_of_length_le (by omega)
  · cases i with
    | zero =>
      simp only [List.getElem?_cons_zero, Option.some.injEq] at hy hm
      subst hy hm
      exact ⟨hx, hi, hf⟩
    | succ i => simp at hy
end Go.Proofs.YtbhghlendbcejaaGreatDoor
