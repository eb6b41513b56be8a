/- Walks: wire.Reader's methods: Word, Number, Text, Count, End, NewReader. -/
import Derived.Test.YtaffpgafbjhahaaDoorRead2
import Derived.Laws.IdiomStrings
namespace Go.Proofs.YtaffpgafbjhahaaDoor
open Go.RowKit
set_option maxRecDepth 100000

/-- what is left to be read; none: broken -/
abbrev RS := Option (List UInt8)
def rdWord (st : RS) : Nat × RS := match st with | none => (0, none) | some l => if 8 ≤ l.length then (ofBe (l.take 8), some (l.drop 8)) else (0, none)
def rdNum (st : RS) : Int × RS := (wrap64 (rdWord st).1, (rdWord st).2)
def rdText (st : RS) : List UInt8 × RS := match st with
  | none => ([], none)
  | some l => if 2 ≤ l.length ∧ ofBe (l.take 2) ≤ 4096 ∧ ofBe (l.take 2) ≤ (l.drop 2).length then ((l.drop 2).take (ofBe (l.take 2)), some ((l.drop 2).drop (ofBe (l.take 2)))) else ([], none)
def rdCount (most : Int) (st : RS) : Int × RS := match st with
  | none => (0, none)
  | some l => if 8 ≤ l.length ∧ 0 ≤ wrap64 (ofBe (l.take 8)) ∧ wrap64 (ofBe (l.take 8)) ≤ most then (wrap64 (ofBe (l.take 8)), some (l.drop 8)) else (0, none)
def rdHash (st : RS) : List UInt8 × RS := match st with
  | none => (List.replicate 32 0, none)
  | some l => if 32 ≤ l.length then (l.take 32, some (l.drop 32)) else (List.replicate 32 0, none)
def rdEnd (st : RS) : Int := match st with | some [] => 0 | _ => 21

/-- a reading's post -/
def Reads (v : Value) (st : RS) (p : Nat) (w : World) (e : Ending) (w' : World) : Prop := e = .returned v ∧ IsR w' p st ∧ w.grownBy w' (some p)

set_option maxHeartbeats 400000 in
theorem WordBody_ok (m p : Nat) (l : List UInt8) (w : World) (hm : One w m (.pointer (some ⟨p, 0, none⟩))) (h : IsR w p (some l)) (hl : 8 ≤ l.length) :
    DoOk 124 #[.pointer (some ⟨m, 0, none⟩)] w (.int .u64 (ofBe (l.take 8) : Nat)) p (l.drop 8) := by
  intro w1 hg
  obtain ⟨c0, _⟩ := hm.grown hg (by simp)
  have C := Lib.hid (word_yes p l 8 w1 (h.grown hg) hl (by omega) (by omega))
  clear hm h hg hl
  go_enter Tryd.func124, Tryd.ntmps124
  go_wp2_with (go_at_call 118; refine C.out.mono ?_; rintro e w' ⟨rfl, h1, h2⟩)
  go_ret
  exact ⟨rfl, h2, h1⟩
set_option maxHeartbeats 400000 in
theorem WordBody_miss (m p : Nat) (l : List UInt8) (w : World) (hm : One w m (.pointer (some ⟨p, 0, none⟩))) (h : IsR w p (some l)) (hl : l.length < 8) :
    DoMiss 124 #[.pointer (some ⟨m, 0, none⟩)] w p := by
  intro w1 hg
  obtain ⟨c0, _⟩ := hm.grown hg (by simp)
  have H := Lib.hid (h.grown hg)
  have C := Lib.hid (word_no p l 8 w1 (h.grown hg) hl)
  clear hm h hg hl
  go_enter Tryd.func124, Tryd.ntmps124
  go_wp2_with (go_at_call 118; refine C.out.mono ?_; rintro e w' ⟨rfl, rfl⟩)
  exact ⟨rfl, rfl, World.grownBy.refl _ _, l, H.out⟩

/-- read's three cases in one -/
theorem readW_any (F : FuncId) (cap : Array Value) (p : Nat) (st : RS) (r : Int × RS) (w : World) (h : IsR w p st) (hF : ∀ args w, (callFunc F args).run Tryd.prog w = .ok (.enter F args) w)
    (C : (st = none ∧ r = (0, none)) ∨ ∃ l, st = some l ∧ ((∃ l', r.2 = some l' ∧ DoOk F cap w (.int .u64 r.1) p l') ∨ (r = (0, none) ∧ DoMiss F cap w p))) :
    Calls Tryd.prog 123 #[.pointer (some ⟨p, 0, none⟩), .func (.func F) #[] cap] w (Reads (.int .u64 r.1) r.2 p w) := by
  rcases C with ⟨rfl, rfl⟩ | ⟨l, rfl, ⟨l', e, C⟩ | ⟨rfl, C⟩⟩
  · exact readW_broken F cap p w h
  · rw [e]; exact readW_ok F cap p l l' _ r.1 rfl w h hF C
  · exact readW_miss F cap p l w h hF C
theorem readN_any (F : FuncId) (cap : Array Value) (p : Nat) (st : RS) (r : Int × RS) (w : World) (h : IsR w p st) (hF : ∀ args w, (callFunc F args).run Tryd.prog w = .ok (.enter F args) w)
    (C : (st = none ∧ r = (0, none)) ∨ ∃ l, st = some l ∧ ((∃ l', r.2 = some l' ∧ DoOk F cap w (.int .i64 r.1) p l') ∨ (r = (0, none) ∧ DoMiss F cap w p))) :
    Calls Tryd.prog 131 #[.pointer (some ⟨p, 0, none⟩), .func (.func F) #[] cap] w (Reads (.int .i64 r.1) r.2 p w) := by
  rcases C with ⟨rfl, rfl⟩ | ⟨l, rfl, ⟨l', e, C⟩ | ⟨rfl, C⟩⟩
  · exact readN_broken F cap p w h
  · rw [e]; exact readN_ok F cap p l l' _ r.1 rfl w h hF C
  · exact readN_miss F cap p l w h hF C
theorem readS_any (F : FuncId) (cap : Array Value) (p : Nat) (st : RS) (r : List UInt8 × RS) (w : World) (h : IsR w p st) (hF : ∀ args w, (callFunc F args).run Tryd.prog w = .ok (.enter F args) w)
    (C : (st = none ∧ r = ([], none)) ∨ ∃ l, st = some l ∧ ((∃ l', r.2 = some l' ∧ DoOk F cap w (.string ⟨r.1.toArray⟩) p l') ∨ (r = ([], none) ∧ DoMiss F cap w p))) :
    Calls Tryd.prog 116 #[.pointer (some ⟨p, 0, none⟩), .func (.func F) #[] cap] w (Reads (.string ⟨r.1.toArray⟩) r.2 p w) := by
  rcases C with ⟨rfl, rfl⟩ | ⟨l, rfl, ⟨l', e, C⟩ | ⟨rfl, C⟩⟩
  · exact readS_broken F cap p w h
  · rw [e]; exact readS_ok F cap p l l' _ ⟨r.1.toArray⟩ rfl w h hF C
  · exact readS_miss F cap p l w h hF C

theorem One.below_box (w : World) (x : Value) (T : TypeId) : ∃ W, w.alloc (.cells #[x] T) = W ∧ One W w.heap.size x ∧ W.heap.size = w.heap.size + 1 ∧ w.grownBy W none :=
  ⟨_, rfl, One.new w x T, by simp, World.grownBy_alloc w _ none⟩

set_option maxHeartbeats 400000 in
theorem RWord (p : Nat) (st : RS) (w : World) (h : IsR w p st) :
    Calls Tryd.prog 66 #[.pointer (some ⟨p, 0, none⟩)] w (Reads (.int .u64 (rdWord st).1) (rdWord st).2 p w) := by
  have hmf : ∀ (fn : Fn) (first cap : Array Value) (w : World), (Instr.makeFunc fn first cap).run Tryd.prog w = .ok (.func fn first cap) w := fun _ _ _ _ => rfl
  obtain ⟨W, hW, o1, hsz, hg⟩ := One.below_box w (.pointer (some ⟨p, 0, none⟩)) 113
  have C := readW_any 124 #[.pointer (some ⟨w.heap.size, 0, none⟩)] p st (((rdWord st).1 : Int), (rdWord st).2) W (h.grown hg) (enters Tryd.func124 (by kernel_rfl) rfl) (by
    cases st with
    | none => exact Or.inl ⟨rfl, rfl⟩
    | some l =>
      refine Or.inr ⟨l, rfl, ?_⟩
      by_cases hl : 8 ≤ l.length
      · left; exact ⟨l.drop 8, by simp [rdWord, hl], by simp only [rdWord, hl, if_true]; exact WordBody_ok _ p l W o1 (h.grown hg) hl⟩
      · right; exact ⟨by simp [rdWord, hl], WordBody_miss _ p l W o1 (h.grown hg) (by omega)⟩)
  have HC := Lib.hid C; have HW := Lib.hid hW; have HG := Lib.hid hg
  obtain ⟨c0, _⟩ := o1
  clear C hW hsz hg h
  go_enter Tryd.func66, Tryd.ntmps66
  go_upto_region 1 with (fail)
  rw [HW.out]
  go_wp2_with (go_at_call 123; refine HC.out.mono ?_; rintro e w' ⟨rfl, h1, h2⟩)
  go_ret
  exact ⟨rfl, h1, Lib.grownBy_trans (grown_none HG.out) h2⟩

set_option maxHeartbeats 400000 in
theorem RNumber (p : Nat) (st : RS) (w : World) (h : IsR w p st) :
    Calls Tryd.prog 64 #[.pointer (some ⟨p, 0, none⟩)] w (Reads (.int .i64 (rdNum st).1) (rdNum st).2 p w) := by
  have C := Lib.hid (RWord p st w h)
  clear h
  go_enter Tryd.func64, Tryd.ntmps64
  go_wp2_with (go_at_call 66; refine C.out.mono ?_; rintro e w' ⟨rfl, h1, h2⟩)
  go_ret
  exact ⟨rfl, h1, h2⟩

/-- a box that a closure holds, and the Reader behind it -/
theorem RdB.conv {w : World} {v : Value} {l : List UInt8} (h : RdB w v l) : (convert 30 9 v).run Tryd.prog w = .ok (.string ⟨l.toArray⟩) w := by
  obtain ⟨ao, c, rfl, _, _, h7⟩ := h
  rcases h7 with ⟨rfl, rfl, rfl⟩ | ⟨g, o, rfl, _, hr⟩
  · exact Lib.run_convert_nil_bytes w _ _ 5 0 Tryd.underlying30 Tryd.underlying5 Tryd.underlying9
  · refine run_convert_bytes_back w _ _ 5 ⟨g, o, none⟩ c l Tryd.underlying30 Tryd.underlying5 Tryd.underlying9 (fun j hj => ?_)
    rw [addr_add]; exact hr j _ (byteCells_get l j hj)

set_option maxHeartbeats 400000 in
theorem TextBody_ok (m p : Nat) (l : List UInt8) (w : World) (hm : One w m (.pointer (some ⟨p, 0, none⟩))) (hne : m ≠ p) (h : IsR w p (some l)) (hl : 2 ≤ l.length) (h4 : ofBe (l.take 2) ≤ 4096) (h5 : ofBe (l.take 2) ≤ (l.drop 2).length) :
    DoOk 117 #[.pointer (some ⟨m, 0, none⟩)] w (.string ⟨((l.drop 2).take (ofBe (l.take 2))).toArray⟩) p ((l.drop 2).drop (ofBe (l.take 2))) := by
  intro w1 hg
  have hm1 := hm.grown hg (by simp)
  obtain ⟨c0, _⟩ := id hm1
  have C := Lib.hid (word_yes p l 2 w1 (h.grown hg) hl (by omega) (by omega))
  have Hm := Lib.hid hm1
  have hwr : wrap64 (ofBe (l.take 2) : Nat) = (ofBe (l.take 2) : Nat) := IntWalk.wrap64_in _ ⟨by omega, by omega⟩
  generalize hn : ofBe (l.take 2) = n at *
  generalize hd : l.drop 2 = l2 at *
  clear hn hd hm hm1 h hg hl
  go_enter Tryd.func117, Tryd.ntmps117
  go_wp2_with fail
  refine C.out.mono ?_
  rintro e w2 ⟨rfl, h1, h2⟩
  obtain ⟨c1, _⟩ := Hm.out.grown h2 (by simp; exact hne)
  have D := Lib.hid (take_yes p l2 n w2 h1 h5)
  have H2 := Lib.hid h2
  have d4 : decide ((n : Int) ≤ 4096) = true := by simp; omega
  clear h1 h2 c0 C
  go_wp2_with (go_at_call 119; refine (rmust_yes _ _).mono ?_; rintro e w' ⟨rfl, rfl⟩)
  refine D.out.mono ?_
  rintro e w3 ⟨v, rfl, k1, k2, k3⟩
  have hconv := k1.conv
  have K2 := Lib.hid k2; have K3 := Lib.hid k3; clear k1 k2 k3 c1 d4
  go_wp2_with fail
  go_ret
  exact ⟨rfl, Lib.grownBy_trans H2.out K3.out, K2.out⟩

set_option maxHeartbeats 400000 in
theorem TextBody_miss (m p : Nat) (l : List UInt8) (w : World) (hm : One w m (.pointer (some ⟨p, 0, none⟩))) (hne : m ≠ p) (h : IsR w p (some l)) (hl : ¬ (2 ≤ l.length ∧ ofBe (l.take 2) ≤ 4096 ∧ ofBe (l.take 2) ≤ (l.drop 2).length)) :
    DoMiss 117 #[.pointer (some ⟨m, 0, none⟩)] w p := by
  intro w1 hg
  have hm1 := hm.grown hg (by simp)
  obtain ⟨c0, _⟩ := id hm1
  have H := Lib.hid (h.grown hg)
  by_cases h2 : 2 ≤ l.length
  · have C := Lib.hid (word_yes p l 2 w1 (h.grown hg) h2 (by omega) (by omega))
    have Hm := Lib.hid hm1
    have hlt : ofBe (l.take 2) < 65536 := by have := ofBe_lt (l.take 2); rw [List.length_take, Nat.min_eq_left h2] at this; simpa using this
    have hwr : wrap64 (ofBe (l.take 2) : Nat) = (ofBe (l.take 2) : Nat) := IntWalk.wrap64_in _ ⟨by omega, by omega⟩
    have hor : 4096 < ofBe (l.take 2) ∨ (ofBe (l.take 2) ≤ 4096 ∧ (l.drop 2).length < ofBe (l.take 2)) := by omega
    generalize hn : ofBe (l.take 2) = n at *
    generalize hd : l.drop 2 = l2 at *
    clear hn hd hm hm1 h hg hl h2
    rcases hor with h4 | ⟨h4, h5⟩
    · go_enter Tryd.func117, Tryd.ntmps117
      go_wp2_with fail
      refine C.out.mono ?_
      rintro e w2 ⟨rfl, h1, h2⟩
      obtain ⟨c1, _⟩ := Hm.out.grown h2 (by simp; exact hne)
      have H1 := Lib.hid h1; have H2 := Lib.hid h2
      have d4 : decide ((n : Int) ≤ 4096) = false := by simp; omega
      clear h1 h2 c0 C
      go_wp2_with (go_at_call 119; refine (rmust_no _ _).mono ?_; rintro e w' ⟨rfl, rfl⟩)
      exact ⟨rfl, rfl, H2.out, l2, H1.out⟩
    · go_enter Tryd.func117, Tryd.ntmps117
      go_wp2_with fail
      refine C.out.mono ?_
      rintro e w2 ⟨rfl, h1, h2⟩
      obtain ⟨c1, _⟩ := Hm.out.grown h2 (by simp; exact hne)
      have D := Lib.hid (take_no p l2 n w2 h1 h5)
      have H1 := Lib.hid h1; have H2 := Lib.hid h2
      have d4 : decide ((n : Int) ≤ 4096) = true := by simp; omega
      clear h1 h2 c0 C
      go_wp2_with (go_at_call 119; refine (rmust_yes _ _).mono ?_; rintro e w' ⟨rfl, rfl⟩)
      refine D.out.mono ?_
      rintro e w3 ⟨rfl, rfl⟩
      exact ⟨rfl, rfl, H2.out, l2, H1.out⟩
  · have C := Lib.hid (word_no p l 2 w1 (h.grown hg) (by omega))
    clear hm h hg hl hm1
    go_enter Tryd.func117, Tryd.ntmps117
    go_wp2_with (go_at_call 118; refine C.out.mono ?_; rintro e w' ⟨rfl, rfl⟩)
    exact ⟨rfl, rfl, World.grownBy.refl _ _, l, H.out⟩

set_option maxHeartbeats 400000 in
theorem RText (p : Nat) (st : RS) (w : World) (h : IsR w p st) :
    Calls Tryd.prog 63 #[.pointer (some ⟨p, 0, none⟩)] w (Reads (.string ⟨(rdText st).1.toArray⟩) (rdText st).2 p w) := by
  have hmf : ∀ (fn : Fn) (first cap : Array Value) (w : World), (Instr.makeFunc fn first cap).run Tryd.prog w = .ok (.func fn first cap) w := fun _ _ _ _ => rfl
  obtain ⟨W, hW, o1, hsz, hg⟩ := One.below_box w (.pointer (some ⟨p, 0, none⟩)) 113
  have hlt := h.lt
  have C := readS_any 117 #[.pointer (some ⟨w.heap.size, 0, none⟩)] p st (rdText st) W (h.grown hg) (enters Tryd.func117 (by kernel_rfl) rfl) (by
    cases st with
    | none => exact Or.inl ⟨rfl, rfl⟩
    | some l =>
      refine Or.inr ⟨l, rfl, ?_⟩
      by_cases hl : 2 ≤ l.length ∧ ofBe (l.take 2) ≤ 4096 ∧ ofBe (l.take 2) ≤ (l.drop 2).length
      · left; exact ⟨(l.drop 2).drop (ofBe (l.take 2)), by simp only [rdText, if_pos hl], by simp only [rdText, if_pos hl]; exact TextBody_ok _ p l W o1 (by omega) (h.grown hg) hl.1 hl.2.1 hl.2.2⟩
      · right; exact ⟨by simp only [rdText, if_neg hl], TextBody_miss _ p l W o1 (by omega) (h.grown hg) hl⟩)
  have HC := Lib.hid C; have HW := Lib.hid hW; have HG := Lib.hid hg
  obtain ⟨c0, _⟩ := o1
  clear C hW hsz hg h hlt
  go_enter Tryd.func63, Tryd.ntmps63
  go_upto_region 1 with (fail)
  rw [HW.out]
  go_wp2_with (go_at_call 116; refine HC.out.mono ?_; rintro e w' ⟨rfl, h1, h2⟩)
  go_ret
  exact ⟨rfl, h1, Lib.grownBy_trans (grown_none HG.out) h2⟩

/-- what End looks at -/
def IsRe (w : World) (p : Nat) (st : RS) : Prop := match st with
  | none => w.cell? ⟨p, 1, none⟩ = some (.bool true)
  | some l => w.cell? ⟨p, 1, none⟩ = some (.bool false) ∧ ∃ ao c, w.cell? ⟨p, 0, none⟩ = some (.slice ao l.length c) ∧ l.length ≤ c ∧ c ≤ maxLen
theorem IsR.e {w : World} {p : Nat} {st : RS} (h : IsR w p st) : IsRe w p st := by
  obtain ⟨_, _, h⟩ := h
  cases st with
  | none => exact h.2
  | some l => obtain ⟨h1, ao, c, h2, h3, h4, _⟩ := h; exact ⟨h1, ao, c, h2, h3, h4⟩
theorem IsRe.grown {w w' : World} {p : Nat} {st : RS} {row : Option Nat} (h : IsRe w p st) (hg : w.grownBy w' row) (hne : some p ≠ row) : IsRe w' p st := by
  cases st with
  | none => exact hg.cell (a := ⟨p, 1, none⟩) h hne
  | some l => obtain ⟨h1, ao, c, h2, h3, h4⟩ := h; exact ⟨hg.cell (a := ⟨p, 1, none⟩) h1 hne, ao, c, hg.cell (a := ⟨p, 0, none⟩) h2 hne, h3, h4⟩

set_option maxHeartbeats 400000 in
theorem REnd (p : Nat) (st : RS) (w : World) (h : IsRe w p st) :
    Calls Tryd.prog 115 #[.pointer (some ⟨p, 0, none⟩)] w fun e w' => e = .returned (.int .i64 (rdEnd st)) ∧ w = w' := by
  cases st with
  | none =>
    have c1 : w.cell? ⟨p, 1, none⟩ = some (.bool true) := h
    clear h
    go_enter Tryd.func115, Tryd.ntmps115
    go_wp2
    go_ret
    exact ⟨rfl, rfl⟩
  | some l =>
    obtain ⟨c1, ao, c, c0, h5, h6⟩ := h
    unfold maxLen at h6
    cases l with
    | nil =>
      simp only [List.length_nil] at c0
      go_enter Tryd.func115, Tryd.ntmps115
      go_wp2
      go_ret
      exact ⟨rfl, rfl⟩
    | cons x l =>
      obtain ⟨n, hn⟩ : ∃ n, (x :: l).length = n := ⟨_, rfl⟩
      have hp : 0 < n := by rw [← hn]; simp
      rw [hn] at c0 h5
      clear hn
      go_enter Tryd.func115, Tryd.ntmps115
      go_wp2
      go_ret
      exact ⟨rfl, rfl⟩

set_option maxHeartbeats 400000 in
theorem CountBody_ok (m k p : Nat) (most : Int) (l : List UInt8) (w : World) (hm : One w m (.pointer (some ⟨p, 0, none⟩))) (hk : One w k (.int .i64 most)) (hne : m ≠ p) (hnk : k ≠ p) (h : IsR w p (some l)) (hl : 8 ≤ l.length) (h4 : 0 ≤ wrap64 (ofBe (l.take 8))) (h5 : wrap64 (ofBe (l.take 8)) ≤ most) :
    DoOk 132 #[.pointer (some ⟨m, 0, none⟩), .pointer (some ⟨k, 0, none⟩)] w (.int .i64 (wrap64 (ofBe (l.take 8)))) p (l.drop 8) := by
  intro w1 hg
  have hm1 := hm.grown hg (by simp)
  have hk1 := hk.grown hg (by simp)
  obtain ⟨c0, _⟩ := id hm1
  have C := Lib.hid (word_yes p l 8 w1 (h.grown hg) hl (by omega) (by omega))
  have Hm := Lib.hid hm1; have Hk := Lib.hid hk1
  generalize hx : wrap64 (ofBe (l.take 8)) = x at *
  have Hx := Lib.hid hx
  clear hm hm1 hk hk1 h hg hl hx
  go_enter Tryd.func132, Tryd.ntmps132
  go_wp2_with fail
  refine C.out.mono ?_
  rintro e w2 ⟨rfl, h1, h2⟩
  obtain ⟨c1, _⟩ := Hm.out.grown h2 (by simp; exact hne)
  obtain ⟨c2, _⟩ := Hk.out.grown h2 (by simp; exact hnk)
  have H1 := Lib.hid h1; have H2 := Lib.hid h2
  have hx := Hx.out
  clear h1 h2 c0 C
  have d4 : decide ((0 : Int) ≤ x) = true := by simp; exact h4
  have d5 : decide (x ≤ most) = true := by simp; exact h5
  go_wp2_with (go_at_call 119; refine (rmust_yes _ _).mono ?_; rintro e w' ⟨rfl, rfl⟩)
  go_ret
  exact ⟨rfl, H2.out, H1.out⟩

set_option maxHeartbeats 400000 in
theorem CountBody_miss (m k p : Nat) (most : Int) (l : List UInt8) (w : World) (hm : One w m (.pointer (some ⟨p, 0, none⟩))) (hk : One w k (.int .i64 most)) (hne : m ≠ p) (hnk : k ≠ p) (h : IsR w p (some l)) (hl : ¬ (8 ≤ l.length ∧ 0 ≤ wrap64 (ofBe (l.take 8)) ∧ wrap64 (ofBe (l.take 8)) ≤ most)) :
    DoMiss 132 #[.pointer (some ⟨m, 0, none⟩), .pointer (some ⟨k, 0, none⟩)] w p := by
  intro w1 hg
  have hm1 := hm.grown hg (by simp)
  have hk1 := hk.grown hg (by simp)
  obtain ⟨c0, _⟩ := id hm1
  have H := Lib.hid (h.grown hg)
  by_cases h8 : 8 ≤ l.length
  · have C := Lib.hid (word_yes p l 8 w1 (h.grown hg) h8 (by omega) (by omega))
    have Hm := Lib.hid hm1; have Hk := Lib.hid hk1
    have hor : wrap64 (ofBe (l.take 8)) < 0 ∨ (0 ≤ wrap64 (ofBe (l.take 8)) ∧ most < wrap64 (ofBe (l.take 8))) := by omega
    generalize hx : wrap64 (ofBe (l.take 8)) = x at *
    have Hx := Lib.hid hx
    clear hm hm1 hk hk1 h hg hl hx h8
    rcases hor with h4 | ⟨h4, h5⟩
    all_goals
      go_enter Tryd.func132, Tryd.ntmps132
      go_wp2_with fail
      refine C.out.mono ?_
      rintro e w2 ⟨rfl, h1, h2⟩
      obtain ⟨c1, _⟩ := Hm.out.grown h2 (by simp; exact hne)
      obtain ⟨c2, _⟩ := Hk.out.grown h2 (by simp; exact hnk)
      have H1 := Lib.hid h1; have H2 := Lib.hid h2
      have hx := Hx.out
      clear h1 h2 c0 C
    · have d4 : decide ((0 : Int) ≤ x) = false := by simp; omega
      go_wp2_with (go_at_call 119; refine (rmust_no _ _).mono ?_; rintro e w' ⟨rfl, rfl⟩)
      exact ⟨rfl, rfl, H2.out, _, H1.out⟩
    · have d4 : decide ((0 : Int) ≤ x) = true := by simp; omega
      have d5 : decide (x ≤ most) = false := by simp; omega
      go_wp2_with (go_at_call 119; refine (rmust_no _ _).mono ?_; rintro e w' ⟨rfl, rfl⟩)
      exact ⟨rfl, rfl, H2.out, _, H1.out⟩
  · have C := Lib.hid (word_no p l 8 w1 (h.grown hg) (by omega))
    clear hm h hg hl hm1 hk hk1
    go_enter Tryd.func132, Tryd.ntmps132
    go_wp2_with (go_at_call 118; refine C.out.mono ?_; rintro e w' ⟨rfl, rfl⟩)
    exact ⟨rfl, rfl, World.grownBy.refl _ _, l, H.out⟩

set_option maxHeartbeats 400000 in
theorem RCount (p : Nat) (most : Int) (st : RS) (w : World) (h : IsR w p st) :
    Calls Tryd.prog 81 #[.pointer (some ⟨p, 0, none⟩), .int .i64 most] w (Reads (.int .i64 (rdCount most st).1) (rdCount most st).2 p w) := by
  have hmf : ∀ (fn : Fn) (first cap : Array Value) (w : World), (Instr.makeFunc fn first cap).run Tryd.prog w = .ok (.func fn first cap) w := fun _ _ _ _ => rfl
  obtain ⟨W, hW, o1, o2, hsz, hb⟩ := two_new w (.pointer (some ⟨p, 0, none⟩)) (.int .i64 most) 113 3
  have hg := below_grown hb
  have hlt := h.lt
  have C := readN_any 132 #[.pointer (some ⟨w.heap.size, 0, none⟩), .pointer (some ⟨w.heap.size + 1, 0, none⟩)] p st (rdCount most st) W (h.grown hg) (enters Tryd.func132 (by kernel_rfl) rfl) (by
    cases st with
    | none => exact Or.inl ⟨rfl, rfl⟩
    | some l =>
      refine Or.inr ⟨l, rfl, ?_⟩
      by_cases hl : 8 ≤ l.length ∧ 0 ≤ wrap64 (ofBe (l.take 8)) ∧ wrap64 (ofBe (l.take 8)) ≤ most
      · left; exact ⟨l.drop 8, by simp only [rdCount, if_pos hl], by simp only [rdCount, if_pos hl]; exact CountBody_ok _ _ p most l W o1 o2 (by omega) (by omega) (h.grown hg) hl.1 hl.2.1 hl.2.2⟩
      · right; exact ⟨by simp only [rdCount, if_neg hl], CountBody_miss _ _ p most l W o1 o2 (by omega) (by omega) (h.grown hg) hl⟩)
  have HC := Lib.hid C; have HW := Lib.hid hW; have HG := Lib.hid hg
  obtain ⟨c0, _⟩ := o1
  clear C hW hsz hg h hlt o2 hb
  go_enter Tryd.func81, Tryd.ntmps81
  go_upto_region 1 with (fail)
  rw [HW.out]
  go_wp2_with (go_at_call 131; refine HC.out.mono ?_; rintro e w' ⟨rfl, h1, h2⟩)
  go_ret
  exact ⟨rfl, h1, Lib.grownBy_trans (grown_none HG.out) h2⟩

theorem Clone_nil (n c : Nat) (w : World) : Calls Tryd.prog 136 #[.slice none n c] w fun e w' => e = .returned (.slice none 0 0) ∧ w = w' :=
  (Tryd.bytes_Clone_nil n c w).mono fun _ _ h => ⟨h.1, h.2.symm⟩

set_option maxHeartbeats 400000 in
theorem NewReader_any (v : Value) (l : List UInt8) (w : World) (hv : RdB w v l) (hl : l.length ≤ 100000000000) :
    Calls Tryd.prog 114 #[v] w fun e w' => ∃ p, e = .returned (.pointer (some ⟨p, 0, none⟩)) ∧ IsR w' p (some l) ∧ w.heap.size ≤ p ∧ Below w.heap.size w w' := by
  obtain ⟨ao, c, rfl, h5, h6, h7⟩ := hv
  rcases h7 with ⟨rfl, rfl, rfl⟩ | ⟨g, o, rfl, hg, hr⟩
  · go_enter Tryd.func114, Tryd.ntmps114
    go_wp2_with (go_at_call 136; refine (Clone_nil _ _ _).mono ?_; rintro e w' ⟨rfl, rfl⟩)
    go_ret
    have hb := Blk.new w [.slice none 0 0, .bool false] 191
    exact ⟨_, rfl, ⟨hb.frozen 0, hb.frozen 1, hb.row 1 _ rfl, none, 0, hb.row 0 _ rfl, by simp, by unfold maxLen; omega, Or.inl ⟨rfl, rfl, rfl⟩⟩, Nat.le_refl _, below_box w _⟩
  · have C : Calls Tryd.prog 136 #[.slice (some ⟨g, o, none⟩) l.length c] w fun e w' => ∃ v, e = .returned v ∧ OwnB w.heap.size v l w' ∧ v ≠ .slice none 0 0 ∧ Below w.heap.size w w' := by
      refine (Tryd.bytes_Clone_at ⟨g, o, none⟩ l.length c (l.map fun x => (x.toNat : Int)) w (by simp) (by omega) ?_).mono ?_
      · intro i hi
        rw [addr_add, hr i _ (byteCells_get l i hi)]
        simp [List.getD, List.getElem?_eq_getElem hi]
      · rintro e w' ⟨v, rfl, h1, h2, h3⟩
        refine ⟨v, rfl, ?_, h2, h3⟩
        unfold OwnB Lib.byteCells
        rw [List.map_map] at h1
        exact h1
    have HC := Lib.hid C
    clear C h5 h6 hg hr
    go_enter Tryd.func114, Tryd.ntmps114
    go_wp2_with fail
    refine HC.out.mono ?_
    rintro e w1 ⟨v, rfl, h1, h2, h3⟩
    obtain ⟨h1, ⟨e, _⟩ | ⟨g2, cap, cur, rfl, hg2, hblk, hle, hcm, hcs, htk⟩⟩ := h1
    · exact absurd e h2
    have hrow : RowAt w1 g2 0 (Lib.byteCells l) := by
      intro j v hj
      rw [Nat.zero_add, Lib.cell_of_heap hblk, ← Array.getElem?_toList]
      have hlt : j < l.length := by have := (List.getElem?_eq_some_iff.1 hj).1; rwa [Lib.byteCells_length] at this
      rw [← htk, List.getElem?_take_of_lt (by omega)] at hj
      exact hj
    have hlt2 := Lib.lt_of_heap hblk
    have Hrow := Lib.hid hrow; have H3 := Lib.hid h3
    clear h1 h2 h3 hblk hrow hcs htk
    go_wp2_with fail
    go_ret
    have hb := Blk.new w1 [.slice (some ⟨g2, 0, none⟩) l.length cap, .bool false] 191
    exact ⟨_, rfl, ⟨hb.frozen 0, hb.frozen 1, hb.row 1 _ rfl, _, cap, hb.row 0 _ rfl, hle, hcm, Or.inr ⟨g2, 0, rfl, hlt2, Hrow.out.grown (World.grownBy_alloc w1 _ none) (by simp)⟩⟩, H3.out.size, H3.out.trans ((below_box w1 _).mono H3.out.size)⟩

end Go.Proofs.YtaffpgafbjhahaaDoor
