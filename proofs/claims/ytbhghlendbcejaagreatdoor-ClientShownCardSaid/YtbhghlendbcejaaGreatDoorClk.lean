/- Proofs as data, and how they lie in memory. A light client beside other things; a client and its copy, that share the lists of their fronts. Walks: nunciolaw19's few, at. Light blocks, and acts of its scripts, that came in. -/
import Derived.Test.YtbhghlendbcejaaGreatDoorSlc
import Derived.Test.YtbhghlendbcejaaGreatDoorCle
import Derived.Test.YtbhghlendbcejaaGreatDoorCs
import Derived.Test.YtbhghlendbcejaaGreatDoorAl
namespace Go.Proofs.YtbhghlendbcejaaGreatDoor
open Go.RowKit
set_option maxRecDepth 100000

/-- a part -/
structure PartD where
  index : Int
  key : ByteArray
  value : ByteArray
  path : List (List UInt8)
structure PartD.wf (p : PartD) : Prop where
  index : i64R p.index
  key : p.key.size ≤ maxLen
  value : p.value.size ≤ maxLen
  path : ∀ h ∈ p.path, h.length = 32
def pathCells (l : List (List UInt8)) : List Value := l.flatMap Lib.byteCells
def PartD.cells (p : PartD) (pv : Value) : List Value := [.int .i64 p.index, .string p.key, .string p.value, pv]
/-- parts in a row, their paths under R -/
def partsR (R : Value → List (List UInt8) → Prop) : List PartD → List Value → Prop
  | [], cs => cs = []
  | p :: ps, cs => ∃ pv rest, R pv p.path ∧ partsR R ps rest ∧ cs = p.cells pv ++ rest
structure ProofD where
  size : Int
  parts : List PartD
structure ProofD.wf (p : ProofD) : Prop where
  size : i64R p.size
  parts : ∀ x ∈ p.parts, x.wf
/-- as RdS; an empty slice may point anywhere -/
def RdE (B : Nat) (w : World) (v : Value) (n k : Nat) (cs : List Value) : Prop :=
  ∃ ao c, v = .slice ao n c ∧ n ≤ c ∧ c ≤ maxLen ∧ cs.length = n * k ∧ ((True ∧ n = 0 ∧ True) ∨ ∃ g o, ao = some ⟨g, o, none⟩ ∧ g < B ∧ RowAt w g o cs)
section
variable {B n k : Nat} {w w' : World} {v : Value} {cs : List Value}
theorem RdS.e (h : RdS B w v n k cs) : RdE B w v n k cs := by
  obtain ⟨ao, c, h1, h2, h3, h4, h5 | h5⟩ := h
  · exact ⟨ao, c, h1, h2, h3, h4, Or.inl ⟨trivial, h5, trivial⟩⟩
  · exact ⟨ao, c, h1, h2, h3, h4, Or.inr h5⟩
theorem RdE.mono {B' : Nat} (h : RdE B w v n k cs) (hB : B ≤ B') : RdE B' w v n k cs := by
  obtain ⟨ao, c, h1, h2, h3, h4, h5 | ⟨g, o, e, hg, hr⟩⟩ := h
  · exact ⟨ao, c, h1, h2, h3, h4, Or.inl h5⟩
  · exact ⟨ao, c, h1, h2, h3, h4, Or.inr ⟨g, o, e, by omega, hr⟩⟩
theorem RdE.below {B' : Nat} (h : RdE B w v n k cs) (hb : Below B' w w') (hB : B ≤ B') : RdE B w' v n k cs := by
  obtain ⟨ao, c, h1, h2, h3, h4, h5 | ⟨g, o, e, hg, hr⟩⟩ := h
  · exact ⟨ao, c, h1, h2, h3, h4, Or.inl h5⟩
  · exact ⟨ao, c, h1, h2, h3, h4, Or.inr ⟨g, o, e, hg, hr.below hb (by omega)⟩⟩
theorem RdE.grown {row : Option Nat} (h : RdE B w v n k cs) (hg : w.grownBy w' row) (hr : ∀ p, row = some p → B ≤ p := by simp) : RdE B w' v n k cs := by
  obtain ⟨ao, c, h1, h2, h3, h4, h5 | ⟨g, o, e, hg1, hr1⟩⟩ := h
  · exact ⟨ao, c, h1, h2, h3, h4, Or.inl h5⟩
  · refine ⟨ao, c, h1, h2, h3, h4, Or.inr ⟨g, o, e, hg1, hr1.grown hg ?_⟩⟩
    intro e2
    have := hr g e2.symm
    omega
theorem RdE.shape (h : RdE B w v n k cs) : ∃ ao c, v = .slice ao n c := by obtain ⟨ao, c, h1, _⟩ := h; exact ⟨ao, c, h1⟩
end
def RdP (B : Nat) (w : World) (pv : Value) (l : List (List UInt8)) : Prop := RdE B w pv l.length 32 (pathCells l)
def ProofD.rep (B : Nat) (w : World) (p : ProofD) (cs : List Value) : Prop := ∃ sl pcs, RdS B w sl p.parts.length 4 pcs ∧ partsR (RdP B w) p.parts pcs ∧ cs = [.int .i64 p.size, sl]
theorem partsR.mono {R R' : Value → List (List UInt8) → Prop} (h : ∀ v l, R v l → R' v l) : ∀ {ps : List PartD} {cs : List Value}, partsR R ps cs → partsR R' ps cs
  | [], _, hp => hp
  | _ :: _, _, ⟨pv, rest, h1, h2, h3⟩ => ⟨pv, rest, h pv _ h1, partsR.mono h h2, h3⟩
theorem partsR.len {R : Value → List (List UInt8) → Prop} : ∀ {ps : List PartD} {cs : List Value}, partsR R ps cs → cs.length = ps.length * 4
  | [], _, hp => by cases hp; rfl
  | _ :: ps, _, ⟨pv, rest, h1, h2, h3⟩ => by subst h3; have := h2.len; simp [PartD.cells, this]; omega
theorem partsR.get {R : Value → List (List UInt8) → Prop} : ∀ {ps : List PartD} {cs : List Value}, partsR R ps cs → ∀ k (h : k < ps.length), ∃ pv, R pv ps[k].path ∧ (cs.drop (k * 4)).take 4 = ps[k].cells pv
  | [], _, _, k, h => by simp at h
  | p :: ps, _, ⟨pv, rest, h1, h2, h3⟩, 0, _ => ⟨pv, h1, by subst h3; simp [PartD.cells]⟩
  | p :: ps, _, ⟨pv, rest, h1, h2, h3⟩, k + 1, h => by
    obtain ⟨pv', e1, e2⟩ := h2.get k (by simpa using h)
    refine ⟨pv', by simpa using e1, ?_⟩
    subst h3
    rw [show (k + 1) * 4 = (p.cells pv).length + k * 4 by simp [PartD.cells]; omega, List.drop_append, List.drop_of_length_le (Nat.le_add_right _ _), List.nil_append, Nat.add_sub_cancel_left]
    simpa using e2
theorem partsR.snoc {R : Value → List (List UInt8) → Prop} {p : PartD} {pv : Value} (hp : R pv p.path) : ∀ {ps : List PartD} {cs : List Value}, partsR R ps cs → partsR R (ps ++ [p]) (cs ++ p.cells pv)
  | [], _, h => by cases h; exact ⟨pv, [], hp, rfl, rfl⟩
  | _ :: _, _, ⟨qv, rest, h1, h2, h3⟩ => ⟨qv, rest ++ p.cells pv, h1, h2.snoc hp, by rw [h3, List.append_assoc]⟩
theorem ProofD.rep.below {B B' : Nat} {w w' : World} {c : ProofD} {cs : List Value} (h : c.rep B w cs) (hb : Below B' w w') (hB : B ≤ B') : c.rep B w' cs := by
  obtain ⟨sl, pcs, h1, h2, h3⟩ := h; exact ⟨sl, pcs, h1.below hb hB, h2.mono fun v l hv => RdE.below hv hb hB, h3⟩
theorem ProofD.rep.mono {B B' : Nat} {w : World} {c : ProofD} {cs : List Value} (h : c.rep B w cs) (hB : B ≤ B') : c.rep B' w cs := by
  obtain ⟨sl, pcs, h1, h2, h3⟩ := h; exact ⟨sl, pcs, h1.mono hB, h2.mono fun v l hv => RdE.mono hv hB, h3⟩
theorem ProofD.rep.gr {B : Nat} {w w' : World} {c : ProofD} {cs : List Value} (h : c.rep B w cs) (hg : w.grownBy w' none) : c.rep B w' cs := by
  obtain ⟨sl, pcs, h1, h2, h3⟩ := h; exact ⟨sl, pcs, h1.grown hg, h2.mono fun v l hv => RdE.grown hv hg, h3⟩
theorem ProofD.rep.length {B : Nat} {w : World} {c : ProofD} {cs : List Value} (h : c.rep B w cs) : cs.length = 2 := by
  obtain ⟨sl, pcs, h1, h2, rfl⟩ := h; rfl
open Go.RowKit Go.Maps

abbrev clOne (B p : Nat) (c : ClD) : Thing B := clT B 87 p c
/-- a client, and a copy of it that was made -/
def clTwo (B p : Nat) (c : ClD) (q : Nat) (d : ClD) : Thing B where
  at_ F w := ∃ I bm x J b2 y, ClRep 87 I w p bm x c ∧ ClRep 87 J w q b2 y d ∧ (p ≠ q ∧ p ≠ b2 ∧ bm ≠ q ∧ bm ≠ b2 ∧ ¬ I q ∧ ¬ I b2 ∧ ¬ J p ∧ ¬ J bm) ∧ ∀ b, F b ↔ (b = p ∨ b = bm ∨ I b) ∨ (b = q ∨ b = b2 ∨ J b)
  keep := by
    rintro F G w w' ⟨I, bm, x, J, b2, y, h, k, hn, hF⟩ _ t hG
    exact ⟨I, bm, x, J, b2, y, h.tch t (fun g => (hG _ g).2 ((hF _).2 (.inl (.inl rfl)))) (fun g => (hG _ g).2 ((hF _).2 (.inl (.inr (.inl rfl))))) (fun b hb g => (hG _ g).2 ((hF _).2 (.inl (.inr (.inr hb))))),
      k.tch t (fun g => (hG _ g).2 ((hF _).2 (.inr (.inl rfl)))) (fun g => (hG _ g).2 ((hF _).2 (.inr (.inr (.inl rfl))))) (fun b hb g => (hG _ g).2 ((hF _).2 (.inr (.inr (.inr hb))))), hn, hF⟩
section
variable {w0 w w' : World} {L L' : List (Nat × List Value × TypeId)} {Ts : List (Thing w0.heap.size)} {T T' : Thing w0.heap.size} {p q : Nat} {c d : ClD}
theorem Sep.only (h : Sep w0 w L Ts) (hl : L'.Sublist L) : Sep w0 w L' Ts :=
  h.move ⟨Tch.refl _ _, fun e he => h.own e (hl.subset he), fun e he => .inr ⟨e, hl.subset he, rfl⟩, h.nodup.sublist hl⟩
/-- one of them, seen as another thing of no more blocks -/
theorem Sep.see (h : Sep w0 w L Ts) (i : Nat) (hi : Ts[i]? = some T) (hT : ∀ F : Nat → Prop, T.at_ F w → ∃ F' : Nat → Prop, T'.at_ F' w ∧ ∀ b, F' b → F b) : Sep w0 w L (Ts.set i T') := by
  obtain ⟨Fs, hl, hF, hd⟩ := h.ex
  have hlt : i < Fs.length := by rw [hl]; exact (List.getElem?_eq_some_iff.1 hi).1
  have hq := List.getElem?_eq_getElem hlt
  obtain ⟨k1, k2⟩ := hF i Fs[i] T hq hi
  obtain ⟨F', k3, k4⟩ := hT _ k1
  exact h.set i Fs hl hF hd hq k3 (Tch.refl _ _) (fun b hb => .inl (k4 b hb)) (fun b hb => (k2 b (k4 b hb)).2.1)
theorem Sep.cl (h : Sep w0 w L Ts) (i : Nat) (hi : Ts[i]? = some (clOne w0.heap.size p c)) : ∃ I bm x, ClRep 87 I w p bm x c := by
  obtain ⟨F, ⟨I, bm, x, r, _⟩, _⟩ := h.get i hi
  exact ⟨I, bm, x, r⟩
theorem Sep.cl1 (h : Sep w0 w L Ts) (i : Nat) (hi : Ts[i]? = some (clTwo w0.heap.size p c q d)) : ∃ I bm x, ClRep 87 I w p bm x c := by
  obtain ⟨F, ⟨I, bm, x, J, b2, y, r, _⟩, _⟩ := h.get i hi
  exact ⟨I, bm, x, r⟩
theorem Sep.cl2 (h : Sep w0 w L Ts) (i : Nat) (hi : Ts[i]? = some (clTwo w0.heap.size p c q d)) : ∃ I bm x, ClRep 87 I w q bm x d := by
  obtain ⟨F, ⟨I, bm, x, J, b2, y, _, r, _⟩, _⟩ := h.get i hi
  exact ⟨J, b2, y, r⟩
/-- the copy is let go -/
theorem Sep.alone (h : Sep w0 w L Ts) (i : Nat) (hi : Ts[i]? = some (clTwo w0.heap.size p c q d)) : Sep w0 w L (Ts.set i (clOne w0.heap.size p c)) := by
  refine h.see i hi ?_
  rintro F ⟨I, bm, x, J, b2, y, r, _, _, hF⟩
  exact ⟨fun b => b = p ∨ b = bm ∨ I b, ⟨I, bm, x, r, fun b => Iff.rfl⟩, fun b hb => (hF b).2 (.inl hb)⟩
theorem ClRep.lies {T : TypeId} {I : Nat → Prop} {bm : Nat} {x : LtR} (r : ClRep T I w p bm x c) : ∀ b, (b = p ∨ b = bm ∨ I b) → b < w.heap.size := by
  rintro b (rfl | rfl | hb)
  · exact r.blk.lt
  · exact r.map.lt
  · exact (r.out b hb).1
theorem kUpdate (h : Sep w0 w L Ts) (i : Nat) (hi : Ts[i]? = some (clOne w0.heap.size p c)) (y : LtR) (l : LightD) (now : Nat) (ho : y.of w0.heap.size w0 l) (hl : l.mid) (hnow : now < 18446744073709551616) (hroom : c.roots.length + 1 ≤ 100000) (hR : RowAt w0 1 0 (wCells rootsL)) :
    Calls Tryz.prog 21 #[.pointer (some ⟨p, 0, none⟩), .agg y.cells.toArray, .float .f64 now] w fun e w' => e = .returned (.int .i64 (c.update l now).2) ∧ Sep w0 w' L (Ts.set i (clOne w0.heap.size p (c.update l now).1)) := by
  refine (h.call (X := fun e T' => e = .returned (.int .i64 (c.update l now).2) ∧ T' = clOne w0.heap.size p (c.update l now).1) i hi ?_).mono ?_
  · rintro F ⟨I, bm, x, r, hF⟩ hb
    refine (cUpdate_ok r y l now (ho.up h.g (Nat.le_refl _)) hl hnow hroom (hR.grown h.g (by simp))).mono ?_
    rintro e w' ⟨rfl, I', z, r', t, hI⟩
    refine ⟨_, ⟨rfl, rfl⟩, fun b => b = p ∨ b = bm ∨ I' b, ⟨I', bm, z, r', fun b => Iff.rfl⟩, t.mono (fun b hb _ => (hF b).2 (hb.imp id .inl)), ?_, r'.lies⟩
    rintro b (hb | hb | hb)
    · exact .inl ((hF b).2 (.inl hb))
    · exact .inl ((hF b).2 (.inr (.inl hb)))
    · exact (hI b hb).imp (fun k => (hF b).2 (.inr (.inr k))) id
  · rintro e w' ⟨T', ⟨rfl, rfl⟩, s⟩
    exact ⟨rfl, s⟩
theorem kUpdate2 (h : Sep w0 w L Ts) (i : Nat) (hi : Ts[i]? = some (clTwo w0.heap.size p c q d)) (y : LtR) (l : LightD) (now : Nat) (ho : y.of w0.heap.size w0 l) (hl : l.mid) (hnow : now < 18446744073709551616) (hroom : c.roots.length + 1 ≤ 100000) (hR : RowAt w0 1 0 (wCells rootsL)) :
    Calls Tryz.prog 21 #[.pointer (some ⟨p, 0, none⟩), .agg y.cells.toArray, .float .f64 now] w fun e w' => e = .returned (.int .i64 (c.update l now).2) ∧ Sep w0 w' L (Ts.set i (clTwo w0.heap.size p (c.update l now).1 q d)) := by
  refine (h.call (X := fun e T' => e = .returned (.int .i64 (c.update l now).2) ∧ T' = clTwo w0.heap.size p (c.update l now).1 q d) i hi ?_).mono ?_
  · rintro F ⟨I, bm, x, J, b2, x2, r, k, ⟨n1, n2, n3, n4, n5, n6, n7, n8⟩, hF⟩ hb
    have hq := k.blk.lt; have hb2 := k.map.lt
    refine (cUpdate_ok r y l now (ho.up h.g (Nat.le_refl _)) hl hnow hroom (hR.grown h.g (by simp))).mono ?_
    rintro e w' ⟨rfl, I', z, r', t, hI⟩
    have k' := k.tch t (fun e => e.elim (fun e => n1 e.symm) (fun e => n3 e.symm)) (fun e => e.elim (fun e => n2 e.symm) (fun e => n4 e.symm)) (fun b hb e => e.elim (fun e => n7 (e ▸ hb)) (fun e => n8 (e ▸ hb)))
    refine ⟨_, ⟨rfl, rfl⟩, fun b => (b = p ∨ b = bm ∨ I' b) ∨ (b = q ∨ b = b2 ∨ J b), ⟨I', bm, z, J, b2, x2, r', k', ⟨n1, n2, n3, n4, ?_, ?_, n7, n8⟩, fun b => Iff.rfl⟩, t.mono (fun b hb _ => (hF b).2 (.inl (hb.imp id .inl))), ?_, ?_⟩
    · intro hb
      rcases hI q hb with k | k
      · exact n5 k
      · omega
    · intro hb
      rcases hI b2 hb with k | k
      · exact n6 k
      · omega
    · rintro b ((hb | hb | hb) | hb)
      · exact .inl ((hF b).2 (.inl (.inl hb)))
      · exact .inl ((hF b).2 (.inl (.inr (.inl hb))))
      · exact (hI b hb).imp (fun k => (hF b).2 (.inl (.inr (.inr k)))) id
      · exact .inl ((hF b).2 (.inr hb))
    · rintro b (hb | hb)
      · exact r'.lies b hb
      · exact k'.lies b hb
  · rintro e w' ⟨T', ⟨rfl, rfl⟩, s⟩
    exact ⟨rfl, s⟩
theorem kBlame (h : Sep w0 w L Ts) (i : Nat) (hi : Ts[i]? = some (clOne w0.heap.size p c)) (y : LtR) (l : LightD) (ho : y.of w0.heap.size w0 l) (hl : l.mid) (hR : RowAt w0 1 0 (wCells rootsL)) :
    Calls Tryz.prog 19 #[.pointer (some ⟨p, 0, none⟩), .agg y.cells.toArray] w fun e w' => e = .returned (.int .i64 (c.blame l).2) ∧ Sep w0 w' L (Ts.set i (clOne w0.heap.size p (c.blame l).1)) := by
  refine (h.call (X := fun e T' => e = .returned (.int .i64 (c.blame l).2) ∧ T' = clOne w0.heap.size p (c.blame l).1) i hi ?_).mono ?_
  · rintro F ⟨I, bm, x, r, hF⟩ hb
    refine (cBlame_ok r y l (ho.up h.g (Nat.le_refl _)) hl (hR.grown h.g (by simp))).mono ?_
    rintro e w' ⟨rfl, r', t⟩
    exact ⟨_, ⟨rfl, rfl⟩, F, ⟨I, bm, x, r', hF⟩, t.mono (fun b hb _ => (hF b).2 (.inl hb)), fun b hb => .inl hb, fun b hb => r'.lies b ((hF b).1 hb)⟩
  · rintro e w' ⟨T', ⟨rfl, rfl⟩, s⟩
    exact ⟨rfl, s⟩
theorem kBlame2 (h : Sep w0 w L Ts) (i : Nat) (hi : Ts[i]? = some (clTwo w0.heap.size p c q d)) (y : LtR) (l : LightD) (ho : y.of w0.heap.size w0 l) (hl : l.mid) (hR : RowAt w0 1 0 (wCells rootsL)) :
    Calls Tryz.prog 19 #[.pointer (some ⟨p, 0, none⟩), .agg y.cells.toArray] w fun e w' => e = .returned (.int .i64 (c.blame l).2) ∧ Sep w0 w' L (Ts.set i (clTwo w0.heap.size p (c.blame l).1 q d)) := by
  refine (h.call (X := fun e T' => e = .returned (.int .i64 (c.blame l).2) ∧ T' = clTwo w0.heap.size p (c.blame l).1 q d) i hi ?_).mono ?_
  · rintro F ⟨I, bm, x, J, b2, x2, r, k, hn, hF⟩ hb
    refine (cBlame_ok r y l (ho.up h.g (Nat.le_refl _)) hl (hR.grown h.g (by simp))).mono ?_
    rintro e w' ⟨rfl, r', t⟩
    have k' := k.tch t (fun e => hn.1 e.symm) (fun e => hn.2.1 e.symm) (fun b hb e => hn.2.2.2.2.2.2.1 (e ▸ hb))
    exact ⟨_, ⟨rfl, rfl⟩, F, ⟨I, bm, x, J, b2, x2, r', k', hn, hF⟩, t.mono (fun b hb _ => (hF b).2 (.inl (.inl hb))), fun b hb => .inl hb, fun b hb => ((hF b).1 hb).elim (r'.lies b) (k'.lies b)⟩
  · rintro e w' ⟨T', ⟨rfl, rfl⟩, s⟩
    exact ⟨rfl, s⟩
theorem kCopy (h : Sep w0 w L Ts) (i : Nat) (hi : Ts[i]? = some (clOne w0.heap.size p c)) :
    Calls Tryz.prog 20 #[.pointer (some ⟨p, 0, none⟩)] w fun e w' => ∃ q, e = .returned (.pointer (some ⟨q, 0, none⟩)) ∧ Sep w0 w' L (Ts.set i (clTwo w0.heap.size p c q c)) := by
  refine (h.call (X := fun e T' => ∃ q, e = .returned (.pointer (some ⟨q, 0, none⟩)) ∧ T' = clTwo w0.heap.size p c q c) i hi ?_).mono ?_
  · rintro F ⟨I, bm, x, r, hF⟩ hb
    refine (cCopy_ok r).mono ?_
    rintro e w' ⟨q, b2, rfl, k, g, h1, h2⟩
    have r' := r.grown g
    have l1 := r.blk.lt; have l2 := r.map.lt
    have hi2 : ∀ b, I b → b < w.heap.size := fun b hb => (r.out b hb).1
    refine ⟨_, ⟨q, rfl, rfl⟩, fun b => (b = p ∨ b = bm ∨ I b) ∨ (b = q ∨ b = b2 ∨ I b), ⟨I, bm, x, I, b2, x, r', k, ⟨by omega, by omega, by omega, by omega, fun hb => ?_, fun hb => ?_, fun hb => (r.out _ hb).2.1 rfl, fun hb => (r.out _ hb).2.2 rfl⟩, fun b => Iff.rfl⟩, (Tch.of_grown g), ?_, ?_⟩
    · have := hi2 _ hb; omega
    · have := hi2 _ hb; omega
    · rintro b (hb | hb | hb | hb)
      · exact .inl ((hF b).2 hb)
      · exact .inr (by omega)
      · exact .inr (by omega)
      · exact .inl ((hF b).2 (.inr (.inr hb)))
    · rintro b (hb | hb)
      · exact r'.lies b hb
      · exact k.lies b hb
  · rintro e w' ⟨T', ⟨q, rfl, rfl⟩, s⟩
    exact ⟨q, rfl, s⟩
end

theorem ret_cm {a b : Bool} (h : b = a) : Ending.returned (.bool a) = .returned (.bool b) := by rw [h]
/-- an act of a script: its proof's size, and the slice of its parts -/
structure Act19 where
  kind : Int
  i : Int
  now : Nat
  key : ByteArray
  value : ByteArray
  size : Int
  sl : Value
def Act19.cells (a : Act19) : List Value := [.int .i64 a.kind, .int .i64 a.i, .float .f64 a.now, .string a.key, .string a.value, .int .i64 a.size, a.sl]
structure Act19.at_ (B : Nat) (w : World) (a : Act19) : Prop where
  kind : i64R a.kind
  i : i64R a.i
  now : a.now < 18446744073709551616
  key : a.key.size ≤ maxLen
  value : a.value.size ≤ maxLen
  p : ∃ p : ProofD, p.wf ∧ p.rep B w [.int .i64 a.size, a.sl]
def acts19Cells (l : List Act19) : List Value := l.flatMap Act19.cells
theorem Act19.at_.slice {B : Nat} {w : World} {a : Act19} (h : a.at_ B w) : ∃ pa n m, a.sl = .slice pa n m := by
  obtain ⟨p, _, sl, pcs, h1, _, h3⟩ := h.p
  obtain ⟨ao, c, e, _⟩ := h1
  injection h3 with _ h3
  injection h3 with h3 _
  exact ⟨ao, _, c, h3.trans e⟩
theorem Act19.one {B : Nat} {w : World} {a : Act19} (h : a.at_ B w) : ∀ v ∈ a.cells, v.oneCell' = true := by
  obtain ⟨pa, n, m, e⟩ := h.slice
  simp [Act19.cells, Value.oneCell', e]
theorem sizeAct19 (a : Act19) : (Tryz.prog.info? 58).map (·.size) = some a.cells.length := rfl
def ZAct19 : List Value := [.int .i64 0, .int .i64 0, .float .f64 0, .string ⟨#[]⟩, .string ⟨#[]⟩, .int .i64 0, .slice none 0 0]
theorem ZAct19_info : (Tryz.prog.info? 58).map (fun i => i.zero.map (fun v => v.cells)) = some (some ZAct19.toArray) := by kernel_rfl
theorem acts19_at {B : Nat} {w : World} {v : Value} {s : List Act19} (h : RdS B w v s.length 7 (acts19Cells s)) (k : Nat) (hk : k < s.length) : ∃ g o c, v = .slice (some ⟨g, o, none⟩) s.length c ∧ g < B ∧ RowAt w g (o + k * 7) s[k].cells := by
  obtain ⟨ao, c, rfl, _, _, hlen, h0 | ⟨g, o, rfl, hg, hr⟩⟩ := h
  · omega
  · exact ⟨g, o, c, rfl, hg, RowAt.elem hr (fun d _ => rfl) k hk⟩
/-- one of light blocks that came in -/
theorem lts_at {B : Nat} {w : World} {v : Value} {xs : List LtR} (h : RdS B w v xs.length 200 (ltsCells xs)) (hw : ∀ x ∈ xs, x.wf) (k : Nat) (hk : k < xs.length) : ∃ g o c, v = .slice (some ⟨g, o, none⟩) xs.length c ∧ g < B ∧ RowAt w g (o + k * 200) xs[k].cells := by
  obtain ⟨ao, c, rfl, _, _, hlen, h0 | ⟨g, o, rfl, hg, hr⟩⟩ := h
  · omega
  · refine ⟨g, o, c, rfl, hg, ?_⟩
    refine RowAt.elem hr (fun d hd => d.cells_length (hw d hd)) k hk
/-- light blocks that came in -/
structure Came (w0 : World) (v : Value) (xs : List LtR) : Prop where
  row : RdS w0.heap.size w0 v xs.length 200 (ltsCells xs)
  each : ∀ x ∈ xs, ∃ l, x.of w0.heap.size w0 l ∧ l.wf ∧ l.header.chain.size ≤ 140737488351232
theorem Came.wf {w0 : World} {v : Value} {xs : List LtR} (h : Came w0 v xs) : ∀ x ∈ xs, x.wf := fun x hx => by
  obtain ⟨l, h1, h2, _⟩ := h.each x hx
  exact h1.wf h2
theorem Came.fit {w0 : World} {v : Value} {xs : List LtR} (h : Came w0 v xs) (hf : xs.all fewLt = true) : ∀ x ∈ xs, ∃ l, x.of w0.heap.size w0 l ∧ l.fit := fun x hx => by
  obtain ⟨l, h1, h2, h3⟩ := h.each x hx
  obtain ⟨k1, k2, k3⟩ := (few_lens h1).1 (List.all_eq_true.1 hf x hx)
  exact ⟨l, h1, h2, k3, k1, k2, h3⟩
/-- may light blocks be asked about? -/
def fewB (xs : List LtR) : Bool := decide (xs.length ≤ 14) && (decide (xs.length ≠ 0) && xs.all fewLt)
set_option maxHeartbeats 2000000 in
theorem few19_ok {B : Nat} (v : Value) (xs : List LtR) (w0 : World) (hr : RdS B w0 v xs.length 200 (ltsCells xs)) (hw : ∀ x ∈ xs, x.wf) :
    Calls Tryz.prog 16 #[v] w0 fun e w' => e = .returned (.bool (fewB xs)) ∧ w0.grownBy w' none := by
  have HA := Lib.hid (fun k hk => lts_at hr hw k hk)
  obtain ⟨ao, cp, rfl, hle, hcm, _, _⟩ := hr
  have HW := Lib.hid hw
  unfold maxLen at hcm
  obtain ⟨n, hn⟩ : ∃ n, xs.length = n := ⟨_, rfl⟩
  obtain ⟨R, hR⟩ : ∃ r, (fewB xs) = r := ⟨_, rfl⟩
  rw [hR]
  rw [hn] at hle
  have HN := Lib.hid hn; have HR := Lib.hid hR
  rw [hn]
  clear hw hn hR
  have HF := Lib.hid (show fewB xs = (decide (n ≤ 14) && (decide (n ≠ 0) && xs.all fewLt)) by unfold fewB; rw [HN.out])
  by_cases c14 : 14 < n
  · have hR : R = false := by rw [← HR.out, HF.out, decide_eq_false (by omega)]; rfl
    have HR2 := Lib.hid hR
    clear hR
    go_enter Tryz.func16, Tryz.ntmps16
    go_wp2
    go_ret
    exact ⟨ret_cm HR2.out, gb_refl _⟩
  by_cases c0 : n = 0
  · have hR : R = false := by rw [← HR.out, HF.out, decide_eq_false (p := n ≠ 0) (by omega)]; simp
    have HR2 := Lib.hid hR
    subst c0
    clear hR
    go_enter Tryz.func16, Tryz.ntmps16
    go_wp2
    go_ret
    exact ⟨ret_cm HR2.out, gb_refl _⟩
  have c0b : ((n : Int) == 0) = false := by simpa using c0
  have c14b : ¬ (14 : Int) < (n : Int) := by omega
  go_enter Tryz.func16, Tryz.ntmps16
  go_wp2
  go_loopw [3] (fun i wr => ∃ k : Nat, k ≤ n ∧ i = .int .i64 k ∧ (xs.take k).all fewLt = true ∧ w0.grownBy wr none) (fun i _ => n - (intOf i).toNat)
  case atStart => exact ⟨0, Nat.zero_le _, rfl, rfl, gb_refl _⟩
  case round =>
    obtain ⟨k, hk, rfl, he, hg⟩ := hrel
    have HE := Lib.hid he; have HG := Lib.hid hg
    clear he hg
    by_cases hlt : k < n
    · have hkx : k < xs.length := by rw [HN.out]; exact hlt
      obtain ⟨g, o, c, hv, hgB, hrow⟩ := HA.out k hkx
      rw [HN.out] at hv
      have e1 := (Value.slice.inj hv).1
      subst e1
      have FX := Lib.hid (hrow.grown HG.out (by simp))
      obtain ⟨x, hx⟩ : ∃ x, xs[k] = x := ⟨_, rfl⟩
      rw [hx] at FX
      have XW := Lib.hid (show x.wf from hx ▸ HW.out _ (List.getElem_mem hkx))
      have CF := Lib.hid (fun w => Few_ok x w XW.out)
      have HT := Lib.hid (show xs.take (k + 1) = xs.take k ++ [x] by rw [List.take_add_one, List.getElem?_eq_getElem hkx, hx]; rfl)
      have HX := Lib.hid (show x ∈ xs from hx ▸ List.getElem_mem hkx)
      obtain ⟨q, hq⟩ : ∃ q, fewLt x = q := ⟨_, rfl⟩
      rw [hq] at CF
      have HQ := Lib.hid hq
      clear hrow hx hq hv hkx
      go_wp2_with (first | ((with_reducible refine @wpList_at _ _ _ _ _ _ _ (.load 31 (.tmp 21)) rfl ?_); refine wpList_load_part rfl 31 _ rfl g ((o + k * 200)) rfl x.cells _ FX.out Tryz.underlying31 rfl (sizeLt _ XW.out) ?_))
      refine (CF.out _).mono ?_
      rintro e u ⟨rfl, g1⟩
      have HG2 := Lib.hid (HG.out.trans g1)
      clear g1
      cases q with
      | true =>
        go_wp2
        exact ⟨⟨k + 1, by omega, by go_num, by rw [HT.out, List.all_append, HE.out]; simp [HQ.out], HG2.out⟩, by simp [intOf]; omega⟩
      | false =>
        have hR : R = false := by
          rw [← HR.out]
          have : xs.all fewLt = false := by
            rw [List.all_eq_false]
            exact ⟨x, HX.out, by rw [HQ.out]; decide⟩
          rw [HF.out, this, Bool.and_false, Bool.and_false]
        have HR2 := Lib.hid hR
        clear hR
        go_wp2
        go_ret
        exact ⟨ret_cm HR2.out, HG2.out⟩
    · obtain rfl : k = n := by omega
      have hR : R = true := by
        rw [← HR.out, HF.out, decide_eq_true (by omega), decide_eq_true (show k ≠ 0 by omega)]
        have h := HE.out
        rwa [List.take_of_length_le (by rw [HN.out]; exact Nat.le_refl _)] at h
      have HR2 := Lib.hid hR
      clear hR
      go_wp2
      go_ret
      exact ⟨ret_cm HR2.out, HG.out⟩

set_option maxHeartbeats 2000000 in
theorem at19_ok {B : Nat} (v : Value) (xs : List LtR) (I : Int) (w0 : World) (hr : RdS B w0 v xs.length 200 (ltsCells xs)) (hw : ∀ x ∈ xs, x.wf) (hn0 : xs.length ≠ 0) (hI : i64R I) :
    Calls Tryz.prog 17 #[v, .int .i64 I] w0 fun e w' => ∃ x ∈ xs, e = .returned (.agg x.cells.toArray) ∧ w0.grownBy w' none := by
  have HA := Lib.hid (fun k hk => lts_at hr hw k hk)
  obtain ⟨ao, cp, rfl, hle, hcm, _, _⟩ := hr
  have HW := Lib.hid hw
  unfold maxLen at hcm
  obtain ⟨n, hn⟩ : ∃ n, xs.length = n := ⟨_, rfl⟩
  rw [hn] at hle hn0
  rw [hn]
  have HN := Lib.hid hn
  have O := OwF.start (fun _ => False) w0
  have hi := hI
  clear hw hn hI
  have c0i : ¬ (n : Int) = 0 := by omega
  unfold i64R at hi
  obtain ⟨j, hj⟩ : ∃ j : Nat, (if I < 0 then -(I + 1) else I) = (j : Int) := ⟨(if I < 0 then -(I + 1) else I).toNat, by split <;> omega⟩
  have hjr : (j : Int) ≤ 9223372036854775807 := by rw [← hj]; split <;> omega
  obtain ⟨k, hk⟩ : ∃ k, j % n = k := ⟨_, rfl⟩
  have hlt : k < n := by rw [← hk]; exact Nat.mod_lt _ (by omega)
  have hrem : (j : Int).tmod (n : Int) = (k : Int) := by rw [Int.tmod_eq_emod_of_nonneg (by omega), ← hk]; rfl
  have hrem2 : (j : Int) % (n : Int) = (k : Int) := by rw [← hk]; rfl
  have hrem3 : ((j % n : Nat) : Int) = (k : Int) := by rw [hk]
  have ew := IntWalk.i64_in (k : Int) (by omega)
  have ew2 := IntWalk.i64_in (j : Int) (by omega)
  have hkx : k < xs.length := by rw [HN.out]; exact hlt
  obtain ⟨g, o, c, hv, hgB, hrow⟩ := HA.out k hkx
  have e1 := (Value.slice.inj hv).1
  subst e1
  have FX := Lib.hid hrow
  obtain ⟨x, hx⟩ : ∃ x, xs[k] = x := ⟨_, rfl⟩
  rw [hx] at FX
  have XW := Lib.hid (show x.wf from hx ▸ HW.out _ (List.getElem_mem hkx))
  have HX := Lib.hid (show x ∈ xs from hx ▸ List.getElem_mem hkx)
  have hix : ¬ ((n : Int) ≤ (k : Int)) := by omega
  clear hrow hx hv hkx hk
  by_cases ci : I < 0
  · rw [if_pos ci] at hj
    have ew3 := IntWalk.i64_in (I + 1) (by omega)
    have hneg : -(I + 1) = (j : Int) := hj
    clear hj hi
    go_enter Tryz.func17, Tryz.ntmps17
    go_wp2_with (first | ((with_reducible refine @wpList_at _ _ _ _ _ _ _ (.load 31 (.tmp 15)) rfl ?_); refine wpList_load_part rfl 31 _ rfl g ((o + k * 200)) rfl x.cells _ (FX.out.grown (O.tch.grown (fun _ h => h.elim)) (by simp)) Tryz.underlying31 rfl (sizeLt _ XW.out) ?_) | ((with_reducible refine @wpList_at _ _ _ _ _ _ _ (.alloc 31) rfl ?_); refine @wpList_of_alloc _ _ _ _ _ _ _ _ _ _ 31 rfl ZLt0 ZLt0_info O rfl ?_; clear O; intro bx w O) | ((with_reducible refine @wpList_at _ _ _ _ _ _ _ (.store 31 (.tmp 4) (.tmp 16)) rfl ?_); refine @wpList_of_store _ _ _ _ _ _ _ _ _ _ 31 (.tmp 4) (.tmp 16) rfl O 0 bx rfl x.cells ZLt0 _ rfl rfl (LtR.cells_length _ XW.out) (LtR_one _) (sizeLt _ XW.out) rfl ?_; clear O; intro w O; simp only [List.set_cons_zero] at O))
    refine bodyPost_ret (results_cell_one rfl _ _ ⟨bx, 0, none⟩ _ rfl (run_loadVar_part _ _ _ 31 x.cells _ (O.row_of (g := bx) (T := 31) (by simp)) Tryz.underlying31 rfl (sizeLt _ XW.out))) rfl ?_
    exact ⟨x, HX.out, rfl, O.tch.grown (fun _ h => h.elim)⟩
  · rw [if_neg ci] at hj
    have hI : I = (j : Int) := hj
    clear hj hi
    go_enter Tryz.func17, Tryz.ntmps17
    go_wp2_with (first | ((with_reducible refine @wpList_at _ _ _ _ _ _ _ (.load 31 (.tmp 15)) rfl ?_); refine wpList_load_part rfl 31 _ rfl g ((o + k * 200)) rfl x.cells _ (FX.out.grown (O.tch.grown (fun _ h => h.elim)) (by simp)) Tryz.underlying31 rfl (sizeLt _ XW.out) ?_) | ((with_reducible refine @wpList_at _ _ _ _ _ _ _ (.alloc 31) rfl ?_); refine @wpList_of_alloc _ _ _ _ _ _ _ _ _ _ 31 rfl ZLt0 ZLt0_info O rfl ?_; clear O; intro bx w O) | ((with_reducible refine @wpList_at _ _ _ _ _ _ _ (.store 31 (.tmp 4) (.tmp 16)) rfl ?_); refine @wpList_of_store _ _ _ _ _ _ _ _ _ _ 31 (.tmp 4) (.tmp 16) rfl O 0 bx rfl x.cells ZLt0 _ rfl rfl (LtR.cells_length _ XW.out) (LtR_one _) (sizeLt _ XW.out) rfl ?_; clear O; intro w O; simp only [List.set_cons_zero] at O))
    refine bodyPost_ret (results_cell_one rfl _ _ ⟨bx, 0, none⟩ _ rfl (run_loadVar_part _ _ _ 31 x.cells _ (O.row_of (g := bx) (T := 31) (by simp)) Tryz.underlying31 rfl (sizeLt _ XW.out))) rfl ?_
    exact ⟨x, HX.out, rfl, O.tch.grown (fun _ h => h.elim)⟩

end Go.Proofs.YtbhghlendbcejaaGreatDoor
