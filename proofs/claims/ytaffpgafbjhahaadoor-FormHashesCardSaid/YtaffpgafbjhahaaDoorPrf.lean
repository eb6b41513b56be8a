/- Proofs: their parts, their bytes, how they lie in memory; forms.checkProof, EncodeProof. -/
import Derived.Test.YtaffpgafbjhahaaDoorEncL
import Derived.Test.YtaffpgafbjhahaaDoorEncode
namespace Go.Proofs.YtaffpgafbjhahaaDoor
open Go.RowKit
set_option maxRecDepth 100000

/-- a part -/
structure PartD where
  index : Int
  key : ByteArray
  value : ByteArray
  path : List (List UInt8)
structure PartD.wf (p : PartD) : Prop where
  index : i64R p.index
  key : p.key.size ≤ maxLen
  value : p.value.size ≤ maxLen
  path : ∀ h ∈ p.path, h.length = 32
def pathCells (l : List (List UInt8)) : List Value := l.flatMap Lib.byteCells
def PartD.cells (p : PartD) (pv : Value) : List Value := [.int .i64 p.index, .string p.key, .string p.value, pv]
/-- parts in a row, their paths under R -/
def partsR (R : Value → List (List UInt8) → Prop) : List PartD → List Value → Prop
  | [], cs => cs = []
  | p :: ps, cs => ∃ pv rest, R pv p.path ∧ partsR R ps rest ∧ cs = p.cells pv ++ rest
structure ProofD where
  size : Int
  parts : List PartD
structure ProofD.wf (p : ProofD) : Prop where
  size : i64R p.size
  parts : ∀ x ∈ p.parts, x.wf
/-- as RdS; an empty slice may point anywhere -/
def RdE (B : Nat) (w : World) (v : Value) (n k : Nat) (cs : List Value) : Prop :=
  ∃ ao c, v = .slice ao n c ∧ n ≤ c ∧ c ≤ maxLen ∧ cs.length = n * k ∧ ((True ∧ n = 0 ∧ True) ∨ ∃ g o, ao = some ⟨g, o, none⟩ ∧ g < B ∧ RowAt w g o cs)
section
variable {B n k : Nat} {w w' : World} {v : Value} {cs : List Value}
theorem RdS.e (h : RdS B w v n k cs) : RdE B w v n k cs := by
  obtain ⟨ao, c, h1, h2, h3, h4, ⟨_, h5, _⟩ | h5⟩ := h
  · exact ⟨ao, c, h1, h2, h3, h4, Or.inl ⟨trivial, h5, trivial⟩⟩
  · exact ⟨ao, c, h1, h2, h3, h4, Or.inr h5⟩
theorem RdE.mono {B' : Nat} (h : RdE B w v n k cs) (hB : B ≤ B') : RdE B' w v n k cs := by
  obtain ⟨ao, c, h1, h2, h3, h4, h5 | ⟨g, o, e, hg, hr⟩⟩ := h
  · exact ⟨ao, c, h1, h2, h3, h4, Or.inl h5⟩
  · exact ⟨ao, c, h1, h2, h3, h4, Or.inr ⟨g, o, e, by omega, hr⟩⟩
theorem RdE.below {B' : Nat} (h : RdE B w v n k cs) (hb : Below B' w w') (hB : B ≤ B') : RdE B w' v n k cs := by
  obtain ⟨ao, c, h1, h2, h3, h4, h5 | ⟨g, o, e, hg, hr⟩⟩ := h
  · exact ⟨ao, c, h1, h2, h3, h4, Or.inl h5⟩
  · exact ⟨ao, c, h1, h2, h3, h4, Or.inr ⟨g, o, e, hg, hr.below hb (by omega)⟩⟩
theorem RdE.grown {row : Option Nat} (h : RdE B w v n k cs) (hg : w.grownBy w' row) (hr : ∀ p, row = some p → B ≤ p := by simp) : RdE B w' v n k cs := by
  obtain ⟨ao, c, h1, h2, h3, h4, h5 | ⟨g, o, e, hg1, hr1⟩⟩ := h
  · exact ⟨ao, c, h1, h2, h3, h4, Or.inl h5⟩
  · refine ⟨ao, c, h1, h2, h3, h4, Or.inr ⟨g, o, e, hg1, hr1.grown hg ?_⟩⟩
    intro e2
    have := hr g e2.symm
    omega
theorem RdE.shape (h : RdE B w v n k cs) : ∃ ao c, v = .slice ao n c := by obtain ⟨ao, c, h1, _⟩ := h; exact ⟨ao, c, h1⟩
end
def RdP (B : Nat) (w : World) (pv : Value) (l : List (List UInt8)) : Prop := RdE B w pv l.length 32 (pathCells l)
def ProofD.rep (B : Nat) (w : World) (p : ProofD) (cs : List Value) : Prop := ∃ sl pcs, RdS B w sl p.parts.length 4 pcs ∧ partsR (RdP B w) p.parts pcs ∧ cs = [.int .i64 p.size, sl]
theorem partsR.mono {R R' : Value → List (List UInt8) → Prop} (h : ∀ v l, R v l → R' v l) : ∀ {ps : List PartD} {cs : List Value}, partsR R ps cs → partsR R' ps cs
  | [], _, hp => hp
  | _ :: _, _, ⟨pv, rest, h1, h2, h3⟩ => ⟨pv, rest, h pv _ h1, partsR.mono h h2, h3⟩
theorem partsR.len {R : Value → List (List UInt8) → Prop} : ∀ {ps : List PartD} {cs : List Value}, partsR R ps cs → cs.length = ps.length * 4
  | [], _, hp => by cases hp; rfl
  | _ :: ps, _, ⟨pv, rest, h1, h2, h3⟩ => by subst h3; have := h2.len; simp [PartD.cells, this]; omega
theorem partsR.get {R : Value → List (List UInt8) → Prop} : ∀ {ps : List PartD} {cs : List Value}, partsR R ps cs → ∀ k (h : k < ps.length), ∃ pv, R pv ps[k].path ∧ (cs.drop (k * 4)).take 4 = ps[k].cells pv
  | [], _, _, k, h => by simp at h
  | p :: ps, _, ⟨pv, rest, h1, h2, h3⟩, 0, _ => ⟨pv, h1, by subst h3; simp [PartD.cells]⟩
  | p :: ps, _, ⟨pv, rest, h1, h2, h3⟩, k + 1, h => by
    obtain ⟨pv', e1, e2⟩ := h2.get k (by simpa using h)
    refine ⟨pv', by simpa using e1, ?_⟩
    subst h3
    rw [show (k + 1) * 4 = (p.cells pv).length + k * 4 by simp [PartD.cells]; omega, List.drop_append, List.drop_of_length_le (Nat.le_add_right _ _), List.nil_append, Nat.add_sub_cancel_left]
    simpa using e2
theorem partsR.snoc {R : Value → List (List UInt8) → Prop} {p : PartD} {pv : Value} (hp : R pv p.path) : ∀ {ps : List PartD} {cs : List Value}, partsR R ps cs → partsR R (ps ++ [p]) (cs ++ p.cells pv)
  | [], _, h => by cases h; exact ⟨pv, [], hp, rfl, rfl⟩
  | _ :: _, _, ⟨qv, rest, h1, h2, h3⟩ => ⟨qv, rest ++ p.cells pv, h1, h2.snoc hp, by rw [h3, List.append_assoc]⟩
theorem ProofD.rep.below {B B' : Nat} {w w' : World} {c : ProofD} {cs : List Value} (h : c.rep B w cs) (hb : Below B' w w') (hB : B ≤ B') : c.rep B w' cs := by
  obtain ⟨sl, pcs, h1, h2, h3⟩ := h; exact ⟨sl, pcs, h1.below hb hB, h2.mono fun v l hv => RdE.below hv hb hB, h3⟩
theorem ProofD.rep.mono {B B' : Nat} {w : World} {c : ProofD} {cs : List Value} (h : c.rep B w cs) (hB : B ≤ B') : c.rep B' w cs := by
  obtain ⟨sl, pcs, h1, h2, h3⟩ := h; exact ⟨sl, pcs, h1.mono hB, h2.mono fun v l hv => RdE.mono hv hB, h3⟩
theorem ProofD.rep.gr {B : Nat} {w w' : World} {c : ProofD} {cs : List Value} (h : c.rep B w cs) (hg : w.grownBy w' none) : c.rep B w' cs := by
  obtain ⟨sl, pcs, h1, h2, h3⟩ := h; exact ⟨sl, pcs, h1.grown hg, h2.mono fun v l hv => RdE.grown hv hg, h3⟩
theorem ProofD.rep.length {B : Nat} {w : World} {c : ProofD} {cs : List Value} (h : c.rep B w cs) : cs.length = 2 := by
  obtain ⟨sl, pcs, h1, h2, rfl⟩ := h; rfl
/-- bytes of a text; of one that is too long: none -/
def textW (s : ByteArray) : List UInt8 := if s.size ≤ 4096 then textL s else []
def encPart (p : PartD) : List UInt8 := be64 p.index ++ textW p.key ++ textW p.value ++ be64 p.path.length ++ p.path.flatten
def encParts (l : List PartD) : List UInt8 := l.flatMap encPart
def encProof (p : ProofD) : List UInt8 := be64 7 ++ be64 p.size ++ be64 p.parts.length ++ encParts p.parts
def pBad (p : PartD) : Bool := decide (4096 < p.key.size) || decide (4096 < p.value.size)
def chkProof (p : ProofD) : Bool := inR p.size 0 4096 && p.parts.all fun x => inR x.index 0 4096
def rightP (p : ProofD) : Bool := decide (p.parts.length ≤ 2) && (chkProof p && p.parts.all fun x => decide (x.path.length ≤ 16))
def okProof (p : ProofD) : Bool := rightP p && !(p.parts.any pBad)
theorem textW_len (s : ByteArray) : (textW s).length ≤ 4098 := by
  unfold textW; split
  · rw [textL_length]; omega
  · simp
theorem encParts_take (l : List PartD) (k : Nat) (h : k < l.length) : encParts (l.take (k + 1)) = encParts (l.take k) ++ encPart l[k] := by
  unfold encParts; rw [List.take_succ_eq_append_getElem h, List.flatMap_append, List.flatMap_singleton]
theorem any_take {A : Type} (f : A → Bool) (l : List A) (k : Nat) (h : k < l.length) : (l.take (k + 1)).any f = ((l.take k).any f || f l[k]) := by
  rw [List.take_succ_eq_append_getElem h, List.any_append]; simp only [List.any_cons, List.any_nil, Bool.or_false]
theorem all_take {A : Type} (f : A → Bool) (l : List A) (k : Nat) (h : k < l.length) : (l.take (k + 1)).all f = ((l.take k).all f && f l[k]) := by
  rw [List.take_succ_eq_append_getElem h, List.all_append]; simp only [List.all_cons, List.all_nil, Bool.and_true]
theorem all_no {A : Type} (f : A → Bool) (l : List A) (k : Nat) (h : k < l.length) (hn : f l[k] = false) : l.all f = false := by
  rw [List.all_eq_false]; exact ⟨l[k], List.getElem_mem _, by simp [hn]⟩

/-- a writing under way, that may have gone wrong -/
structure Sw (b : Nat) (w1 : World) (bs : List UInt8) (bad : Bool) (L : Nat) (w : World) : Prop where
  isW : IsW b b bs bad w
  bel : Below b w1 w
  len : bs.length ≤ L
theorem Sw.lt {b L : Nat} {w1 w : World} {bs : List UInt8} {bad : Bool} (h : Sw b w1 bs bad L w) : b ≤ w.heap.size := Nat.le_of_lt h.isW.lt
theorem Sw.over {b L : Nat} {w1 w w' : World} {bs : List UInt8} {bad : Bool} (h : Sw b w1 bs bad L w) (hb : Below w.heap.size w w') : Sw b w1 bs bad L w' :=
  ⟨LibA.IsBuffer.old h.isW hb, h.bel.trans (hb.mono h.lt), h.len⟩
theorem Sw.grown {b L : Nat} {w1 w w' : World} {bs : List UInt8} {bad : Bool} (h : Sw b w1 bs bad L w) (hg : w.grownBy w' none) : Sw b w1 bs bad L w' := h.over ⟨hg.os, hg.tape, hg.output, hg.size, fun k hk => hg.block k hk (by simp)⟩
theorem Sw.put {b L L' : Nat} {w1 w : World} {bs bs' : List UInt8} {bad bad' : Bool} (h : Sw b w1 bs bad L w) (hb : bs = bs') (hd : bad = bad') (hL : L ≤ L') : Sw b w1 bs' bad' L' w := ⟨hb ▸ hd ▸ h.isW, h.bel, by rw [← hb]; exact Nat.le_trans h.len hL⟩
def StepW (b : Nat) (w1 : World) (bs : List UInt8) (bad : Bool) (L : Nat) (w : World) (e : Ending) (w' : World) : Prop := e = .returned (.tuple #[]) ∧ Sw b w1 bs bad L w' ∧ WK b b w w'
theorem Number_w {b L : Nat} {w1 w : World} {bs : List UInt8} {bad : Bool} (h : Sw b w1 bs bad L w) (hL : L ≤ 1000000000) (n : Int) :
    Calls Tryd.prog 49 #[.pointer (some ⟨b, 0, none⟩), .int .i64 n] w (StepW b w1 (bs ++ be64 n) bad (L + 8) w) :=
  (Number_any b b bs bad n w h.isW h.lt (by have := h.len; omega)).mono fun _ _ ⟨h1, h2, h3⟩ =>
    ⟨h1, ⟨h2, h.bel.trans h3.1, by rw [List.length_append, be64_length]; have := h.len; omega⟩, h3⟩
theorem Hash_w {b L : Nat} {w1 w : World} {bs : List UInt8} {bad : Bool} (h : Sw b w1 bs bad L w) (hL : L ≤ 1000000000) (l : List UInt8) (hl : l.length = 32) :
    Calls Tryd.prog 58 #[.pointer (some ⟨b, 0, none⟩), hashV l] w (StepW b w1 (bs ++ l) bad (L + 32) w) :=
  (Hash_any b b bs l bad w h.isW h.lt (by have := h.len; omega) hl).mono fun _ _ ⟨h1, h2, h3⟩ =>
    ⟨h1, ⟨h2, h.bel.trans h3.1, by rw [List.length_append, hl]; have := h.len; omega⟩, h3⟩
theorem Text_w {b L : Nat} {w1 w : World} {bs : List UInt8} {bad : Bool} (h : Sw b w1 bs bad L w) (hL : L ≤ 1000000000) (s : ByteArray) (hs : s.size ≤ maxLen) :
    Calls Tryd.prog 50 #[.pointer (some ⟨b, 0, none⟩), .string s] w (StepW b w1 (bs ++ textW s) (bad || decide (4096 < s.size)) (L + 4098) w) := by
  by_cases h4 : s.size ≤ 4096
  · have e1 : textW s = textL s := if_pos h4
    rw [e1, decide_eq_false (by omega), Bool.or_false]
    refine (Text_ok b b bs bad s w h.isW h.lt (by have := h.len; omega) h4).mono fun _ _ ⟨h1, h2, h3⟩ => ⟨h1, ⟨by rw [List.append_assoc] at h2; exact h2, h.bel.trans h3.1, ?_⟩, h3⟩
    rw [List.length_append, textL_length]; have := h.len; omega
  · have e1 : textW s = [] := if_neg h4
    rw [e1, decide_eq_true (by omega), Bool.or_true, List.append_nil]
    exact (Text_bad b b bs bad s w h.isW h.lt (by omega) hs).mono fun _ _ ⟨h1, h2, h3⟩ => ⟨h1, ⟨h2, h.bel.trans h3.1, Nat.le_trans h.len (by omega)⟩, h3⟩

set_option maxHeartbeats 400000 in
theorem encode_bad (F : FuncId) (cap : Array Value) (bs : List UInt8) (w : World) (hF : ∀ args w, (callFunc F args).run Tryd.prog w = .ok (.enter F args) w) (C : Writes F cap w.heap.size w bs true) :
    Calls Tryd.prog 46 #[.func (.func F) #[] cap] w fun e w' => e = .returned (.tuple #[.slice none 0 0, .int .i64 61]) ∧ Below w.heap.size w w' := by
  have hmf : ∀ (fn : Fn) (first cap : Array Value) (w : World), (Instr.makeFunc fn first cap).run Tryd.prog w = .ok (.func fn first cap) w := fun _ _ _ _ => rfl
  obtain ⟨W0, hW, a1, a2, a3, a4⟩ := two_new w (.slice none 0 0) (.int .i64 0) 30 31
  have HC := Lib.hid C
  have A1 := Lib.hid a1; have A2 := Lib.hid a2; have A3 := Lib.hid a3; have A4 := Lib.hid a4; have HW := Lib.hid hW
  clear C a1 a2 a3 a4 hW
  go_enter_defers Tryd.func46, Tryd.ntmps46
  go_wp2_with fail
  rw [HW.out]
  refine (NewWriter_any _).mono ?_
  rintro e w1 ⟨rfl, h1, h2, h3⟩
  rw [A3.out] at h1 h2 h3 ⊢
  have H1 := Lib.hid h1; have H2 := Lib.hid h2; have H3 := Lib.hid h3; clear h1 h2 h3
  go_wp2_with fail
  refine (HC.out w1 _ H1.out (A4.out.trans (H2.out.mono (by omega))) (by omega)).mono ?_
  rintro e w2 ⟨rfl, k1, k2⟩
  have K1 := Lib.hid k1; have K2 := Lib.hid k2; clear k1 k2
  go_wp2_with fail
  refine (Bytes_bad _ _ bs _ K1.out).mono ?_
  rintro e w3 ⟨rfl, rfl⟩
  have B1 : Below (w.heap.size + 2) W0 w2 := H2.out.trans K2.out
  have hs : w.heap.size + 2 ≤ w2.heap.size := by have := H2.out.size; have := K2.out.size; have := H3.out; have := A3.out; omega
  have a1 := A1.out.below B1 (by omega)
  have a2 := A2.out.below B1 (by omega)
  obtain ⟨d1, d2⟩ := id a1
  obtain ⟨d3, d4⟩ := id a2
  have P1 := Lib.hid a1; have P2 := Lib.hid a2; have B1' := Lib.hid B1; have Hs := Lib.hid hs; clear B1 a1 a2 hs
  have d5 : (w2.setCell ⟨w.heap.size, 0, none⟩ (.slice none 0 0)).cell? ⟨w.heap.size + 1, 0, none⟩ = some (.int .i64 0) := (World.cell?_setCell_other _ _ _ _ (by simp)).trans d3
  go_wp2_with (go_at_call 107; refine (must_no _).mono ?_; rintro e w' ⟨rfl, rfl⟩)
  obtain ⟨W5, hW5, f1, f2, f3⟩ : ∃ W5, (w2.setCell ⟨w.heap.size, 0, none⟩ (.slice none 0 0)).setCell ⟨w.heap.size + 1, 0, none⟩ (.int .i64 21) = W5 ∧
      One W5 w.heap.size (.slice none 0 0) ∧ One W5 (w.heap.size + 1) (.int .i64 21) ∧ Below w.heap.size w W5 := by
    refine ⟨_, rfl, ?_, ?_, ?_⟩
    · refine (P1.out.set _).below (B := w.heap.size + 1) ((Below.refl _ _).setCell (by simp) _) (by omega)
    · exact One.set (x := .int .i64 0) ⟨d5, by simpa using d4⟩ _
    · have h0 : Below w.heap.size w w2 := A4.out.trans (B1'.out.mono (by omega))
      exact (h0.setCell (by simp) _).setCell (by simp) _
  rw [hW5]
  have hz : w.heap.size + 1 < W5.heap.size := by rw [← hW5]; simp; have := Hs.out; omega
  refine leaves_cons (f := 103) (args := #[.pointer (some ⟨w.heap.size, 0, none⟩), .pointer (some ⟨w.heap.size + 1, 0, none⟩)]) (by simp) (by simp [go_sem]) ?_
  refine (encCatch_panicking w.heap.size (w.heap.size + 1) _ _ _ f1 f2 (by omega) (by omega) (by omega)).mono ?_
  rintro e u' w'' ⟨rfl, rfl, w3, g1, rfl⟩
  have q1 := f1.below g1 (by omega)
  have q2 := f2.below g1 hz
  obtain ⟨W6, hW6, f5, f6, f7⟩ : ∃ W6, (w3.setCell ⟨w.heap.size, 0, none⟩ (.slice none 0 0)).setCell ⟨w.heap.size + 1, 0, none⟩ (.int .i64 61) = W6 ∧
      W6.cell? ⟨w.heap.size, 0, none⟩ = some (.slice none 0 0) ∧ W6.cell? ⟨w.heap.size + 1, 0, none⟩ = some (.int .i64 61) ∧ Below w.heap.size w W6 := by
    refine ⟨_, rfl, ?_, ?_, ?_⟩
    · rw [World.cell?_setCell_other _ _ _ _ (by simp)]
      exact World.cell?_setCell_same' _ _ _ (by rw [q1.1]; rfl)
    · refine World.cell?_setCell_same' _ _ _ ?_
      rw [World.cell?_setCell_other _ _ _ _ (by simp), q2.1]; rfl
    · exact ((f3.trans (g1.mono (by omega))).setCell (by simp) _).setCell (by simp) _
  rw [hW6]
  exact ⟨.tuple #[.slice none 0 0, .int .i64 61], by simp [results, Tryd.results46, go_sem, f5, f6], rfl, f7⟩

end Go.Proofs.YtaffpgafbjhahaaDoor
