/- A signer in memory, with its log and its tape. -/
import Derived.Test.YtcbkehnlgpcelaaGreatDoorDrw
import Derived.Test.YtcbkehnlgpcelaaGreatDoorSch3
import Derived.Test.YtcbkehnlgpcelaaGreatDoorDecVote
namespace Go.Proofs.YtcbkehnlgpcelaaGreatDoor
open Go.RowKit
set_option maxRecDepth 100000

section
variable {w w' : World} {b g k n m o c k2 n2 : Nat} {c1 c2 cs : List Value} {T T1 T2 e e2 : TypeId} {v v2 : Value} {xs xs2 : List Value}
theorem Blk.ty (h : Blk w b c1 T1) (h2 : Blk w b c2 T2) : T1 = T2 := by
  have := h.symm.trans h2
  injection this with this
  injection this
theorem Blk.ne (h : Blk w b c1 T1) (h2 : Blk w g c2 T2) (hT : T1 ≠ T2) : b ≠ g := fun e => hT (h.ty (e ▸ h2))
theorem SRow.own (h : SRow w e k v n xs) (hb : v.ownBlock = some b) : ∃ cur, Blk w b cur e := by
  obtain ⟨_, ⟨hv, _⟩ | ⟨g, o, cap, cur, hv, h1, _⟩⟩ := h
  · rw [hv] at hb; cases hb
  · rw [hv] at hb; injection hb with hb; subst hb; exact ⟨_, h1⟩
theorem SRow.ne (h : SRow w e k v n xs) (hb : Blk w g cs T) (hT : T ≠ e) : v.ownBlock ≠ some g := fun he => by
  obtain ⟨cur, h1⟩ := h.own he
  exact hT (hb.ty h1)
theorem SRow.ne2 (h : SRow w e k v n xs) (h2 : SRow w e2 k2 v2 n2 xs2) (hT : e ≠ e2) (hb : v.ownBlock = some b) : v2.ownBlock ≠ some b := fun he => by
  obtain ⟨cur, h1⟩ := h.own hb
  exact h2.ne h1 hT he
end
/-- the blocks of G are of these types -/
def Ty (w : World) (S : List TypeId) (G : Nat → Prop) : Prop := ∀ b, G b → b < w.heap.size → ∃ cs T, Blk w b cs T ∧ T ∈ S
section
variable {w w' : World} {G : Nat → Prop} {S : List TypeId} {g k n : Nat} {cs xs : List Value} {T e : TypeId} {v : Value}
theorem Tch.low (t : Tch G w w') : Tch (fun b => G b ∧ b < w.heap.size) w w' := t.mono fun _ hb hl => ⟨hb, hl⟩
theorem Blk.ty_keep (h : Blk w g cs T) (t : Tch G w w') (hG : Ty w S G) (hT : T ∉ S) : Blk w' g cs T :=
  t.low.blk h fun hb => by
    obtain ⟨c2, T2, h2, h3⟩ := hG _ hb.1 hb.2
    exact hT (h.ty h2 ▸ h3)
theorem SRow.ty_no (h : SRow w e k v n xs) (hG : Ty w S G) (hT : e ∉ S) (b : Nat) (hb : v.ownBlock = some b) : ¬ (G b ∧ b < w.heap.size) := fun hg => by
    obtain ⟨c2, T2, h2, h3⟩ := hG _ hg.1 hg.2
    obtain ⟨cur, h1⟩ := h.own hb
    exact hT (h1.ty h2 ▸ h3)
theorem SRow.ty_keep (h : SRow w e k v n xs) (t : Tch G w w') (hG : Ty w S G) (hT : e ∉ S) : SRow w' e k v n xs := h.tch t.low (h.ty_no hG hT)
theorem Ty.one (h : Blk w g cs T) : Ty w [T] fun b => b = g := fun b hb _ => ⟨cs, T, hb ▸ h, by simp⟩
theorem SRow.tys (h : SRow w e k v n xs) : Ty w [e] fun b => v.ownBlock = some b := fun b hb _ => by
  obtain ⟨cur, h1⟩ := h.own hb
  exact ⟨cur, e, h1, by simp⟩
theorem Ty.or {S2 : List TypeId} {G2 : Nat → Prop} (h : Ty w S G) (h2 : Ty w S2 G2) : Ty w (S ++ S2) fun b => G b ∨ G2 b := fun b hb hl => by
  rcases hb with hb | hb
  · obtain ⟨c, T, h1, h3⟩ := h b hb hl
    exact ⟨c, T, h1, List.mem_append_left _ h3⟩
  · obtain ⟨c, T, h1, h3⟩ := h2 b hb hl
    exact ⟨c, T, h1, List.mem_append_right _ h3⟩
end
/-- a step: its bytes' slice, its bytes, how many are safe -/
structure StP where
  v : Value
  B : List UInt8
  safe : Int
def stC (l : List StP) : List Value := l.flatMap fun s => [s.v, .int .i64 s.safe]
/-- a tape: its block, the bytes, how many are safe, what was first, the steps -/
structure TpP where
  t : Nat
  bv : Value
  B : List UInt8
  safe : Int
  fv : Value
  fs : Int
  sv : Value
  ns : Nat
  sx : List Value
  fB : List UInt8
  st : List StP
def TpP.cells (x : TpP) : List Value := [x.bv, .int .i64 x.safe, x.fv, .int .i64 x.fs, x.sv]
structure TpRep (w : World) (x : TpP) : Prop where
  blk : Blk w x.t x.cells 75
  bytes : SRow w 5 1 x.bv x.B.length (Lib.byteCells x.B)
  steps : SRow w 72 2 x.sv x.ns x.sx
  first : SRow w 5 1 x.fv x.fB.length (Lib.byteCells x.fB)
  nst : x.ns = x.st.length
  sst : x.sx = stC x.st
  each : ∀ s ∈ x.st, SRow w 5 1 s.v s.B.length (Lib.byteCells s.B)
/-- the blocks that it may write -/
def TpP.foot (x : TpP) (b : Nat) : Prop := b = x.t ∨ x.sv.ownBlock = some b
section
variable {w w' : World} {x : TpP} {G : Nat → Prop}
theorem TpRep.tys (h : TpRep w x) : Ty w [75, 72] x.foot := (Ty.one h.blk).or h.steps.tys
theorem TpRep.ty_keep {S : List TypeId} (h : TpRep w x) (t : Tch G w w') (hG : Ty w S G) (h1 : 75 ∉ S) (h2 : 72 ∉ S) (h3 : 5 ∉ S) : TpRep w' x :=
  ⟨h.blk.ty_keep t hG h1, h.bytes.ty_keep t hG h3, h.steps.ty_keep t hG h2, h.first.ty_keep t hG h3, h.nst, h.sst, fun s hs => (h.each s hs).ty_keep t hG h3⟩
theorem TpRep.grown (h : TpRep w x) (g : w.grownBy w' none) : TpRep w' x := h.ty_keep (G := fun _ => False) (S := []) (Tch.of_grown g) (fun _ hf _ => hf.elim) (by simp) (by simp) (by simp)
theorem TpRep.lt {b : Nat} (h : TpRep w x) (hb : x.foot b) : b < w.heap.size := by
  rcases hb with rfl | hb
  · exact h.blk.lt
  · exact h.steps.lt hb
end
/-- a log: its block, its records, how many are safe -/
structure LgP where
  l : Nat
  x : TpP
  rv : Value
  nr : Nat
  rx : List Value
  syn : Int
  rc : List (Value × List UInt8)
def LgP.cells (y : LgP) : List Value := [.pointer (some ⟨y.x.t, 0, none⟩), y.rv, .int .i64 y.syn]
structure LgRep (w : World) (y : LgP) : Prop where
  blk : Blk w y.l y.cells 113
  tape : TpRep w y.x
  recs : SRow w 27 1 y.rv y.nr y.rx
  nrc : y.nr = y.rc.length
  src : y.rx = y.rc.map (·.1)
  each : ∀ r ∈ y.rc, SRow w 5 1 r.1 r.2.length (Lib.byteCells r.2)
def LgP.foot (y : LgP) (b : Nat) : Prop := b = y.l ∨ y.x.foot b ∨ y.rv.ownBlock = some b
/-- a signer: its block, its log, its key, its votes -/
structure SgP where
  s : Nat
  y : LgP
  secret : Nat
  key : Nat
  chain : ByteArray
  vv : Value
  vs : List VoteD
  bad : Bool
def votesCells (l : List VoteD) : List Value := l.flatMap VoteD.cells
def SgP.cells (z : SgP) : List Value := [.pointer (some ⟨z.y.l, 0, none⟩), .int .u64 (z.secret : Int), .int .u64 (z.key : Int), .string z.chain, z.vv, .bool z.bad]
structure SgRep (w : World) (z : SgP) : Prop where
  blk : Blk w z.s z.cells 83
  log : LgRep w z.y
  votes : SRow w 40 39 z.vv z.vs.length (votesCells z.vs)
  wf : ∀ v ∈ z.vs, v.wf
  nil0 : z.vs.length = 0 → z.vv = .slice none 0 0
  sec : keyOk z.secret = true
  hkey : z.key = pw 37 z.secret
  name : nameL z.chain.data.toList = true
def SgP.foot (z : SgP) (b : Nat) : Prop := b = z.s ∨ z.y.foot b ∨ z.vv.ownBlock = some b
section
variable {w w' : World} {y : LgP} {z : SgP} {G : Nat → Prop}
theorem LgRep.tys (h : LgRep w y) : Ty w [113, 75, 72, 27] y.foot := (Ty.one h.blk).or (h.tape.tys.or h.recs.tys)
theorem LgRep.ty_keep {S : List TypeId} (h : LgRep w y) (t : Tch G w w') (hG : Ty w S G) (h0 : 113 ∉ S) (h1 : 75 ∉ S) (h2 : 72 ∉ S) (h3 : 5 ∉ S) (h4 : 27 ∉ S) : LgRep w' y :=
  ⟨h.blk.ty_keep t hG h0, h.tape.ty_keep t hG h1 h2 h3, h.recs.ty_keep t hG h4, h.nrc, h.src, fun s hs => (h.each s hs).ty_keep t hG h3⟩
theorem LgRep.grown (h : LgRep w y) (g : w.grownBy w' none) : LgRep w' y := h.ty_keep (G := fun _ => False) (S := []) (Tch.of_grown g) (fun _ hf _ => hf.elim) (by simp) (by simp) (by simp) (by simp) (by simp)
theorem LgRep.lt {b : Nat} (h : LgRep w y) (hb : y.foot b) : b < w.heap.size := by
  rcases hb with rfl | hb | hb
  · exact h.blk.lt
  · exact h.tape.lt hb
  · exact h.recs.lt hb
/-- what touches other types' blocks, and votes of other rows, leaves a signer -/
theorem SgRep.apart {S : List TypeId} (h : SgRep w z) (t : Tch G w w') (hG : Ty w (40 :: S) G) (hS : ∀ T ∈ [83, 113, 75, 72, 5, 27], T ∉ 40 :: S) (hv : ∀ b, z.vv.ownBlock = some b → ¬ G b) : SgRep w' z :=
  ⟨h.blk.ty_keep t hG (hS _ (by simp)), h.log.ty_keep t hG (hS _ (by simp)) (hS _ (by simp)) (hS _ (by simp)) (hS _ (by simp)) (hS _ (by simp)), h.votes.tch t hv, h.wf, h.nil0, h.sec, h.hkey, h.name⟩
theorem SgRep.grown (h : SgRep w z) (g : w.grownBy w' none) : SgRep w' z :=
  ⟨h.blk.grown g (by simp), h.log.grown g, h.votes.grown g, h.wf, h.nil0, h.sec, h.hkey, h.name⟩
theorem SgRep.lt {b : Nat} (h : SgRep w z) (hb : z.foot b) : b < w.heap.size := by
  rcases hb with rfl | hb | hb
  · exact h.blk.lt
  · exact h.log.lt hb
  · exact h.votes.lt hb
end
/-- a tape that has had a call: its bytes, and how many are safe -/
def TpP.next (x : TpP) (bv : Value) (B : List UInt8) (safe : Int) (sv : Value) : TpP := { x with bv := bv, B := B, safe := safe, sv := sv, ns := x.ns + 1, sx := x.sx ++ [bv, .int .i64 safe], st := x.st ++ [⟨bv, B, safe⟩] }

end Go.Proofs.YtcbkehnlgpcelaaGreatDoor
