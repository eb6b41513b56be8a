/- Walks: nuncioref02's Word, Text, Hash: bytes by append. Walks: nuncioref06's in, Name. -/
import Derived.Test.YtcbkehnlgpcelaaGreatDoorApp
import Derived.Test.YtcbkehnlgpcelaaGreatDoorRef2
namespace Go.Proofs.YtcbkehnlgpcelaaGreatDoor
open Go.RowKit
set_option maxRecDepth 100000

theorem u8_info : (Tryz.prog.info? 5).map (fun i => (i.zero, i.size, i.bytes)) = some (some (.int .u8 0), 1, 1) := by kernel_rfl
/-- what a function answers that makes bytes -/
def MakesB (l : List UInt8) (w : World) (e : Ending) (w' : World) : Prop := ∃ a n c, e = .returned (.slice a n c) ∧ OwnB w.heap.size (.slice a n c) l w' ∧ Below w.heap.size w w'
theorem OwnB.kept {B : Nat} {v : Value} {l : List UInt8} {w w' : World} (h : OwnB B v l w) (hg : w.grownBy w' none) : OwnB B v l w' := by
  refine World.ownsRow.kept h hg ?_
  cases hv : v.ownBlock <;> simp
theorem OwnB.below {B : Nat} {v : Value} {l : List UInt8} {w w' : World} (h : OwnB B v l w) (hg : Below w.heap.size w w') : OwnB B v l w' := h.kept (below_grown hg)
theorem OwnB.add {B n m : Nat} {v : Value} {l k : List UInt8} {w : World} (h : w.ownsRow B 5 1 v (n + m) (Lib.byteCells l ++ Lib.byteCells k)) (hn : n = l.length) (hm : m = k.length) : OwnB B v (l ++ k) w := by
  subst hn hm
  unfold OwnB
  rw [Lib.byteCells_append, List.length_append]; exact h
theorem OwnB.snoc {B n : Nat} {v : Value} {l : List UInt8} {c : UInt8} {x : Value} {w : World} (h : w.ownsRow B 5 1 v (n + 1) (Lib.byteCells l ++ [x])) (hn : n = l.length) (hx : x = .int .u8 (c.toNat : Int)) : OwnB B v (l ++ [c]) w := by
  subst hx
  exact OwnB.add (k := [c]) h hn rfl
theorem RdB.src {w : World} {v : Value} {l : List UInt8} (h : RdB w v l) : Src Tryz.prog 1 27 v l.length (Lib.byteCells l) w := by
  obtain ⟨ao, c, rfl, _, _, ⟨rfl, rfl, rfl⟩ | ⟨g, o, rfl, _, hr⟩⟩ := h
  · exact Src.ofNil _ Tryz.underlying27 0
  · refine Src.ofSlice _ Tryz.underlying27 _ _ _ _ (by rw [Lib.byteCells_length, Nat.mul_one]) (fun j u hj => ?_) (Lib.byteCells_one l)
    rw [addr_add]; exact hr j u hj
theorem src_str (w : World) (s : ByteArray) : Src Tryz.prog 1 9 (.string s) s.data.toList.length (Lib.byteCells s.data.toList) w := by
  have h := Src.ofString (P := Tryz.prog) w (tx := 9) Tryz.underlying9 s
  rw [show s.data.toList.length = s.size by simp]
  exact h

/-- append(b, c...), of bytes -/
theorem wp_app {o : Oper} {a : Act} {w : World} {K : Act → World → Prop} {Q : Exit → Act → World → Prop} (s x : Operand)
    (ho : o.op = .call { callee := .builtin .append, args := #[s, x], argTypes := #[27, 27] }) {B : Nat} {v : Value} {l : List UInt8} (hs : a.eval s = v) (hown : OwnB B v l w)
    {xv : Value} {m : List UInt8} (hx : a.eval x = xv) (hr : RdB w xv m) (hlen : l.length + m.length ≤ 140737488355328) (hB : B ≤ w.heap.size)
    (h : ∀ a' n' c' w', OwnB B (.slice a' n' c') (l ++ m) w' → Below B w w' → K (a.put o.dst (.slice a' n' c')) w') : o.wp Tryz.prog a w K Q := by
  refine wp_append_srcs w s x 27 27 ho B 5 (.int .u8 0) 1 1 Tryz.underlying27 u8_info rfl v l.length (Lib.byteCells l) hs hown xv m.length _ hx hr.src (by unfold maxLen; omega) (by omega) hB ?_
  intro v' w' h1 _ h2 _
  have h3 := OwnB.add h1 rfl rfl
  obtain ⟨a', n', c', rfl⟩ := h3.shape
  exact h a' n' c' w' h3 h2
/-- .. append(b, s...), of a string -/
theorem wp_app_str {o : Oper} {a : Act} {w : World} {K : Act → World → Prop} {Q : Exit → Act → World → Prop} (s x : Operand)
    (ho : o.op = .call { callee := .builtin .append, args := #[s, x], argTypes := #[27, 9] }) {B : Nat} {v : Value} {l : List UInt8} (hs : a.eval s = v) (hown : OwnB B v l w)
    {m : ByteArray} (hx : a.eval x = .string m) (hlen : l.length + m.size ≤ 140737488355328) (hB : B ≤ w.heap.size)
    (h : ∀ a' n' c' w', OwnB B (.slice a' n' c') (l ++ m.data.toList) w' → Below B w w' → K (a.put o.dst (.slice a' n' c')) w') : o.wp Tryz.prog a w K Q := by
  have hm : m.data.toList.length = m.size := by simp
  refine wp_append_srcs w s x 27 9 ho B 5 (.int .u8 0) 1 1 Tryz.underlying27 u8_info rfl v l.length (Lib.byteCells l) hs hown _ m.data.toList.length _ hx (src_str w m) (by unfold maxLen; omega) (by omega) hB ?_
  intro v' w' h1 _ h2 _
  have h3 := OwnB.add h1 rfl rfl
  obtain ⟨a', n', c', rfl⟩ := h3.shape
  exact h a' n' c' w' h3 h2
/-- the arm -/
theorem wpList_app {ops : Array Oper} {rest : List Oper} {o : Oper} {a : Act} {w : World} {Q : Exit → Act → World → Prop} (hgd : Region.wanted o (yielded ops a.tmps) = true) (s x : Operand)
    (ho : o.op = .call { callee := .builtin .append, args := #[s, x], argTypes := #[27, 27] }) {B : Nat} {v : Value} {l : List UInt8} (hs : a.eval s = v) (hown : OwnB B v l w)
    {xv : Value} {m : List UInt8} (hx : a.eval x = xv) (hr : RdB w xv m) (hlen : l.length + m.length ≤ 140737488355328) (hB : B ≤ w.heap.size)
    (h : ∀ a' n' c' w', OwnB B (.slice a' n' c') (l ++ m) w' → Below B w w' → wpList Tryz.prog ops Q rest (a.put o.dst (.slice a' n' c')) w') : wpList Tryz.prog ops Q (o :: rest) a w :=
  wpList_wanted hgd fun _ hK => wp_app s x ho hs hown hx hr hlen hB fun a' n' c' w' h1 h2 => hK _ _ (h a' n' c' w' h1 h2)
theorem wpList_app_str {ops : Array Oper} {rest : List Oper} {o : Oper} {a : Act} {w : World} {Q : Exit → Act → World → Prop} (hgd : Region.wanted o (yielded ops a.tmps) = true) (s x : Operand)
    (ho : o.op = .call { callee := .builtin .append, args := #[s, x], argTypes := #[27, 9] }) {B : Nat} {v : Value} {l : List UInt8} (hs : a.eval s = v) (hown : OwnB B v l w)
    {m : ByteArray} (hx : a.eval x = .string m) (hlen : l.length + m.size ≤ 140737488355328) (hB : B ≤ w.heap.size)
    (h : ∀ a' n' c' w', OwnB B (.slice a' n' c') (l ++ m.data.toList) w' → Below B w w' → wpList Tryz.prog ops Q rest (a.put o.dst (.slice a' n' c')) w') : wpList Tryz.prog ops Q (o :: rest) a w :=
  wpList_wanted hgd fun _ hK => wp_app_str s x ho hs hown hx hlen hB fun a' n' c' w' h1 h2 => hK _ _ (h a' n' c' w' h1 h2)
/-- the step, in a region that draws its order -/
theorem step_app {ops : Array Oper} {o : Oper} {a : Act} {w : World} {K : Act → World → Prop} {Q : Exit → Act → World → Prop} {E : Prop} (hgd : o.guard = none) (s x : Operand)
    (ho : o.op = .call { callee := .builtin .append, args := #[s, x], argTypes := #[27, 27] }) {B : Nat} {v : Value} {l : List UInt8} (hs : a.eval s = v) (hown : OwnB B v l w)
    {xv : Value} {m : List UInt8} (hx : a.eval x = xv) (hr : RdB w xv m) (hlen : l.length + m.length ≤ 140737488355328) (hB : B ≤ w.heap.size)
    (h : ∀ a' n' c' w', OwnB B (.slice a' n' c') (l ++ m) w' → Below B w w' → K (a.put o.dst (.slice a' n' c')) w') : if Region.wanted o (yielded ops a.tmps) = true then Oper.wp Tryz.prog o a w K Q else E := by
  have hw : Region.wanted o (yielded ops a.tmps) = true := by simp [Region.wanted, hgd]
  rw [if_pos hw]
  exact wp_app s x ho hs hown hx hr hlen hB h
/-- .. append(b, c), of one byte -/
theorem wpList_app_one {ops : Array Oper} {rest : List Oper} {o : Oper} {a : Act} {w : World} {Q : Exit → Act → World → Prop} (hgd : Region.wanted o (yielded ops a.tmps) = true) (s x : Operand)
    (ho : o.op = .call { callee := .builtin .append, args := #[s, x], argTypes := #[27, 27] }) {B : Nat} {v : Value} {l : List UInt8} (hs : a.eval s = v) (hown : OwnB B v l w) (c : UInt8) {u : Int}
    (hx : a.eval x = .slice (some ⟨w.heap.size, 0, none⟩) 1 1) (hc : (c.toNat : Int) = u) (hlen : l.length + 1 ≤ 140737488355328) (hB : B ≤ w.heap.size)
    (h : ∀ a' n' c' w', OwnB B (.slice a' n' c') (l ++ [c]) w' → Below B w w' → wpList Tryz.prog ops Q rest (a.put o.dst (.slice a' n' c')) w') : wpList Tryz.prog ops Q (o :: rest) a (w.alloc (.cells #[.int .u8 u] 5)) := by
  subst hc
  have hown2 : OwnB B v l (w.alloc (.cells #[.int .u8 (c.toNat : Int)] 5)) := World.ownsRow.alloc hown _
  refine wpList_app hgd s x ho hs hown2 hx (m := [c]) ⟨_, _, rfl, Nat.le_refl _, by unfold maxLen; simp, Or.inr ⟨w.heap.size, 0, rfl, by simp, RowAt_box w [.int .u8 (c.toNat : Int)] _⟩⟩ hlen (by simp; omega) ?_
  intro a' n' c' w' h1 h2
  exact h a' n' c' w' h1 (((Below.refl _ _).alloc hB _).trans h2)

set_option maxHeartbeats 400000 in
theorem MWord (n : Int) (w : World) (h0 : 0 ≤ n) (h1 : n < 18446744073709551616) :
    Calls Tryz.prog 113 #[.int .u64 n] w (MakesB (be64 n) w) := by
  obtain ⟨k, rfl⟩ := Int.eq_ofNat_of_zero_le h0
  have e : (be64 (k : Int)) = be 8 k := by
    unfold be64
    rw [show ((k : Int) % 18446744073709551616).toNat = k from by omega]
  rw [e]
  have Hk := Lib.hid h1
  clear h0 e h1
  go_enter Tryz.func113, Tryz.ntmps113
  go_wp2
  go_loopw [3, 4] (fun v i wr => ∃ m : Nat, m ≤ 8 ∧ (∃ kk : Int, kk = 8 * (m : Int) - 8 ∧ i = .int .i64 kk) ∧ (∃ cs, cs ++ be m k = be 8 k ∧ OwnB w.heap.size v cs wr ∧ cs.length ≤ 8) ∧ Below w.heap.size w wr) (fun _ i _ => (intOf i + 8).toNat)
  case atStart => exact ⟨8, Nat.le_refl _, ⟨_, rfl, rfl⟩, ⟨[], rfl, World.ownsRow_nil _ _ _ _, by simp⟩, Below.refl _ _⟩
  case round =>
    obtain ⟨m, hm, ⟨kk, hkk, rfl⟩, hcs, hb⟩ := hrel
    have Hcs := Lib.hid hcs; have Hb := Lib.hid hb; clear hcs hb
    by_cases hm0 : m = 0
    · subst hm0
      obtain rfl : kk = -8 := by omega
      clear hkk hm
      go_wp2
      go_ret
      obtain ⟨cs, e1, e2, e3⟩ := Hcs.out
      have e4 : cs = be 8 k := by simpa [be] using e1
      obtain ⟨a, n, c, hv⟩ := e2.shape
      subst e4 hv
      exact ⟨a, n, c, rfl, e2, Hb.out⟩
    · obtain ⟨m', rfl⟩ : ∃ m', m = m' + 1 := ⟨m - 1, by omega⟩
      have hk1 : kk = 8 * (m' : Int) := by omega
      have hk0 : 0 ≤ kk := by omega
      have hk2 : kk < 64 := by omega
      obtain ⟨cs, e1, e2, e3⟩ := Hcs.out
      have hby : ((UInt8.ofNat (k / 256 ^ m')).toNat : Int) = (k : Int) / 2 ^ kk.toNat % 256 := by rw [hk1, ← byte_of, IntKind.wrap_u8]
      have E1 := Lib.hid e1; have E2 := Lib.hid e2; have E3 := Lib.hid e3; have Hk1 := Lib.hid hk1; have Hm := Lib.hid hm; have Hby := Lib.hid hby; clear e1 e2 e3 hm0 hkk hk1 hm hby
      go_wp2_with (refine wpList_app_one rfl _ _ rfl rfl E2.out (UInt8.ofNat (k / 256 ^ m')) rfl Hby.out (by have := E3.out; omega) Hb.out.size ?_; intro a' n' c' w' hown' hb')
      refine ⟨⟨m', by have := Hm.out; omega, ⟨_, by have := Hk1.out; omega, rfl⟩, ⟨cs ++ [UInt8.ofNat (k / 256 ^ m')], ?_, hown', ?_⟩, Hb.out.trans hb'⟩, ?_⟩
      · rw [← E1.out]; simp [be]
      · have h1 := congrArg List.length E1.out
        rw [List.length_append, be_length, be_length] at h1
        rw [List.length_append]; simp; have := Hm.out; omega
      · simp [intOf]; have := Hk1.out; omega

set_option maxHeartbeats 400000 in
theorem MNumber (n : Int) (w : World) :
    Calls Tryz.prog 119 #[.int .i64 n] w (MakesB (be64 n) w) := by
  have C := MWord (IntKind.u64.wrap n) w (by simp [IntKind.wrap, IntKind.signed, IntKind.bits]; omega) (by simp [IntKind.wrap, IntKind.signed, IntKind.bits]; omega)
  rw [be64_wrap] at C
  have C := Lib.hid C
  go_enter Tryz.func119, Tryz.ntmps119
  go_wp2_with (go_at_call 113; refine C.out.mono ?_; rintro e w' ⟨a, n, c, rfl, h1, h2⟩)
  go_ret
  exact ⟨a, n, c, rfl, h1, h2⟩

theorem len_bytes (k : Nat) : be16 k = [UInt8.ofNat (k / 256), UInt8.ofNat k] := by simp [be16, be]

set_option maxHeartbeats 400000 in
theorem MText (s : ByteArray) (w : World) (hs : s.size ≤ 140737488351232) :
    Calls Tryz.prog 120 #[.string s] w (MakesB (textL s) w) := by
  have e : textL s = [UInt8.ofNat (s.size / 256), UInt8.ofNat s.size] ++ s.data.toList := by rw [textL, len_bytes]
  have own2 : ∀ x y : Int, ((UInt8.ofNat (s.size / 256)).toNat : Int) = x → ((UInt8.ofNat s.size).toNat : Int) = y → OwnB w.heap.size (.slice (some ⟨w.heap.size, 0, none⟩) 2 2) [UInt8.ofNat (s.size / 256), UInt8.ofNat s.size] (w.alloc (.cells #[.int .u8 x, .int .u8 y] 5)) := by
    rintro x y rfl rfl
    exact World.ownsRow_lit (base := w.heap.size) (e := 5) (size := 1) w _ 2 (Nat.le_refl _) (by unfold maxLen; omega) rfl
  have HO := Lib.hid own2; have He := Lib.hid e
  clear own2 e
  go_enter Tryz.func120, Tryz.ntmps120
  go_wp2_with (refine wpList_app_str rfl (.tmp 10) (.tmp 11) rfl rfl (HO.out _ _ (by simp <;> omega) (by simp <;> omega)) rfl (by simp; omega) (by simp) ?_; intro a n c w' h1 h2)
  go_ret
  exact ⟨a, n, c, rfl, by rw [He.out]; exact h1, (below_box w _).trans h2⟩

set_option maxHeartbeats 400000 in
theorem MHash (l : List UInt8) (w : World) (hl : l.length = 32) :
    Calls Tryz.prog 121 #[hashV l] w (MakesB l w) := by
  unfold hashV
  obtain ⟨W1, hW1⟩ : ∃ W1, w.alloc (.cells (Lib.byteCells l).toArray 26) = W1 := ⟨_, rfl⟩
  have hrow : RowAt W1 w.heap.size 0 (Lib.byteCells l) := hW1 ▸ RowAt_box w _ _
  have hbel : Below w.heap.size w W1 := hW1 ▸ below_box w _
  have hsz : W1.heap.size = w.heap.size + 1 := by rw [← hW1]; simp
  have HR := Lib.hid hrow; have HB := Lib.hid hbel; have HS := Lib.hid hsz; have HW := Lib.hid hW1; have HL := Lib.hid hl
  clear hrow hbel hsz hW1 hl
  go_enter Tryz.func121, Tryz.ntmps121
  go_upto_region 1 with (fail)
  rw [HW.out]
  go_wp2
  go_loopw [3, 4] (fun v i wr => ∃ k : Nat, k ≤ 32 ∧ i = .int .i64 k ∧ OwnB (w.heap.size + 1) v (l.take k) wr ∧ Below (w.heap.size + 1) W1 wr) (fun _ i _ => 32 - (intOf i).toNat)
  case atStart => exact ⟨0, Nat.zero_le _, rfl, World.ownsRow_nil _ _ _ _, Below.refl _ _⟩
  case round =>
    obtain ⟨k, hk, rfl, ho, hb⟩ := hrel
    have Ho := Lib.hid ho; have Hb := Lib.hid hb; clear ho hb
    by_cases hlt : k < 32
    · have hk2 : k < l.length := by rw [HL.out]; exact hlt
      have hcell := (HR.out.below Hb.out (by omega)) k _ (byteCells_get _ k hk2)
      obtain ⟨u, hu⟩ : ∃ u, u = l[k] := ⟨_, rfl⟩
      have hs : l.take (k + 1) = l.take k ++ [u] := by rw [List.take_succ_eq_append_getElem hk2, hu]
      rw [← hu, Nat.zero_add] at hcell
      have Hs := Lib.hid hs
      clear hk2 hu hs
      go_wp2_with (refine wpList_app_one rfl _ _ rfl rfl Ho.out u rfl rfl (by rw [List.length_take]; omega) (by have := Hb.out.size; have := HS.out; omega) ?_; intro a' n' c' w' hown' hb')
      refine ⟨⟨k + 1, by omega, by go_num, by rw [Hs.out]; exact hown', Hb.out.trans hb'⟩, by simp [intOf]; omega⟩
    · obtain rfl : k = 32 := by omega
      go_wp2
      go_ret
      obtain ⟨a, n, c, hv⟩ := Ho.out.shape
      subst hv
      have ho := Ho.out
      rw [List.take_of_length_le (by rw [HL.out]; omega)] at ho
      exact ⟨a, n, c, rfl, ho.mono (by omega), HB.out.trans (Hb.out.mono (by omega))⟩

theorem ret_bool {a b : Bool} (h : b = a) : Ending.returned (.bool a) = .returned (.bool b) := by rw [h]

set_option maxHeartbeats 400000 in
theorem in_any (n lo hi : Int) (w : World) : Calls Tryz.prog 118 #[.int .i64 n, .int .i64 lo, .int .i64 hi] w fun e w' => e = .returned (.bool (inR n lo hi)) ∧ w = w' := by
  by_cases h1 : lo ≤ n
  · by_cases h2 : n ≤ hi
    · have e : inR n lo hi = true := by simp [inR, h1, h2]
      rw [e]
      have d1 : decide (lo ≤ n) = true := by simpa using h1
      have d2 : decide (n ≤ hi) = true := by simpa using h2
      clear e
      go_enter Tryz.func118, Tryz.ntmps118
      go_wp2
      go_ret
      exact ⟨rfl, rfl⟩
    · have e : inR n lo hi = false := by simp [inR, h2]
      rw [e]
      have d1 : decide (lo ≤ n) = true := by simpa using h1
      have d2 : decide (n ≤ hi) = false := by simpa using h2
      clear e
      go_enter Tryz.func118, Tryz.ntmps118
      go_wp2
      go_ret
      exact ⟨rfl, rfl⟩
  · have e : inR n lo hi = false := by simp [inR, h1]
    rw [e]
    have d1 : decide (lo ≤ n) = false := by simpa using h1
    clear e
    go_enter Tryz.func118, Tryz.ntmps118
    go_wp2
    go_ret
    exact ⟨rfl, rfl⟩

set_option maxHeartbeats 400000 in
theorem Name_any (s : ByteArray) (w : World) (hs : s.size ≤ maxLen) : Calls Tryz.prog 48 #[.string s] w fun e w' => e = .returned (.bool (nameL s.data.toList)) ∧ w = w' := by
  have hlen : s.data.toList.length = s.size := by simp
  have Hlen := Lib.hid hlen
  unfold maxLen at hs
  clear hlen
  go_enter Tryz.func48, Tryz.ntmps48
  go_wp2
  go_loop [3] (fun i => ∃ k : Nat, k ≤ s.size ∧ i = .int .i64 k ∧ (s.data.toList.take k).all letter = true) (fun i => s.size - (intOf i).toNat)
  case atStart => exact ⟨0, Nat.zero_le _, rfl, by simp⟩
  case round =>
    obtain ⟨k, hk, rfl, hall⟩ := hrel
    have Hall := Lib.hid hall; clear hall
    by_cases hlt : k < s.size
    · have hk2 : k < s.data.toList.length := by rw [Hlen.out]; exact hlt
      obtain ⟨u, hu⟩ : ∃ u, u = s.data.toList[k] := ⟨_, rfl⟩
      have hu2 : s[k]'hlt = u := by rw [hu]; simp; rfl
      have Hn := Lib.hid (letter_all_no s.data.toList k hk2)
      have Hs := Lib.hid (letter_all_snoc s.data.toList k hk2)
      rw [← hu] at Hn Hs
      clear hk2 hu
      by_cases g1 : 97 ≤ u.toNat
      · have d1 : decide ((u.toNat : Int) < 97) = false := by simp; omega
        by_cases g2 : u.toNat ≤ 122
        · have d2 : decide ((122 : Int) < (u.toNat : Int)) = false := by simp; omega
          go_wp2
          go_round
          case rel => exact ⟨k + 1, by omega, by go_num, by rw [Hs.out, Hall.out]; simp [letter, g1, g2]⟩
          case measure => simp [intOf]; omega
        · have d2 : decide ((122 : Int) < (u.toNat : Int)) = true := by simp; omega
          go_wp2
          go_ret
          have e := nameL_no _ (Hn.out (letter_no u (by omega)))
          exact ⟨ret_bool e, rfl⟩
      · have d1 : decide ((u.toNat : Int) < 97) = true := by simp; omega
        go_wp2
        go_ret
        have e := nameL_no _ (Hn.out (letter_no u (by omega)))
        exact ⟨ret_bool e, rfl⟩
    · have hks : k = s.size := by omega
      subst hks
      have Hl := Hall.out
      rw [List.take_of_length_le (by rw [Hlen.out]; omega)] at Hl
      have HL := Lib.hid Hl
      clear Hl Hall hlt hk
      by_cases g1 : 1 ≤ s.size
      · by_cases g2 : s.size ≤ 16
        · have d1 : decide ((1 : Int) ≤ (s.size : Int)) = true := by simp; omega
          have d2 : decide ((s.size : Int) ≤ 16) = true := by simp; omega
          have e := nameL_yes _ (by rw [Hlen.out]; exact g1) (by rw [Hlen.out]; exact g2) HL.out
          have E := Lib.hid e; clear e
          go_wp2
          go_ret
          exact ⟨ret_bool E.out, rfl⟩
        · have d1 : decide ((1 : Int) ≤ (s.size : Int)) = true := by simp; omega
          have d2 : decide ((s.size : Int) ≤ 16) = false := by simp; omega
          have e : nameL s.data.toList = false := by unfold nameL; rw [Hlen.out]; simp [g2]
          have E := Lib.hid e; clear e
          go_wp2
          go_ret
          exact ⟨ret_bool E.out, rfl⟩
      · have d1 : decide ((1 : Int) ≤ (s.size : Int)) = false := by simp; omega
        have e : nameL s.data.toList = false := by unfold nameL; rw [Hlen.out]; simp [g1]
        have E := Lib.hid e; clear e
        go_wp2
        go_ret
        exact ⟨ret_bool E.out, rfl⟩

end Go.Proofs.YtcbkehnlgpcelaaGreatDoor
