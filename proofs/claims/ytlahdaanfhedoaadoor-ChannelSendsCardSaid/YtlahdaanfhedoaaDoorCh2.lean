/- Walks: a channel: New, Send, Next, Entries; nunciolaw20's alive. -/
import Derived.Test.YtlahdaanfhedoaaDoorCh1
import Derived.Test.YtlahdaanfhedoaaDoorLn
import Derived.Maps.OwnSet
import Derived.StringKeys
namespace Go.Proofs.YtlahdaanfhedoaaDoor
open Go.RowKit Go.Maps
set_option maxRecDepth 100000

def heldS (v : Value) : Option (DataW Value × List MemPlace) := some (.held v, [])
theorem strmap_keyed : Keyed Tryd.prog 9 := string_keyed Tryd.underlying9
theorem str_key (s : ByteArray) (h : s.size ≤ maxLen) : keyOf Tryd.prog 9 (.string s) = some (.string s.data.toList) := Go.WideMaps.keyOf_string_mk Tryd.underlying9 h
def chCells (own other : ByteArray) (next : Int) (bm : Nat) : List Value := [.string own, .string other, .int .i64 next, .map (some bm)]
/-- a channel in memory -/
structure ChRep (w : World) (p bm : Nat) (own other : ByteArray) (next : Int) (n : Nat) (D : DataW Value) : Prop where
  blk : Blk w p (chCells own other next bm) 64
  map : w.ownsMap Tryd.prog 9 heldS bm n D
  ne : p ≠ bm
theorem ChRep.grown {w w' : World} {p bm : Nat} {own other : ByteArray} {next : Int} {n : Nat} {D : DataW Value} (h : ChRep w p bm own other next n D) (g : w.grownBy w' none) : ChRep w' p bm own other next n D :=
  ⟨h.blk.grown g (by simp), h.map.kept g (by simp), h.ne⟩
theorem wpList_mkmapC {P : Program} {ops : Array Oper} {rest : List Oper} {o : Oper} {a : Act} {w : World} {Q : Exit → Act → World → Prop} (t : TypeId) (ho : o.op = .makeMap t none) (hgd : Region.wanted o (yielded ops a.tmps) = true)
    (h : wpList P ops Q rest (a.put o.dst (.map (some w.heap.size))) (w.alloc (.map #[] 0))) : wpList P ops Q (o :: rest) a w := by
  refine wpList_wanted hgd fun K hK => ?_
  unfold Oper.wp execOp
  simp only [ho, Sem.run_bind, Sem.run_pure]
  exact hK _ _ h
def nmP (s : ByteArray) : PacketD := ⟨1, s, ⟨#[]⟩, 1⟩
theorem nmP_wf {s : ByteArray} (h : s.size ≤ maxLen) : (nmP s).wf := ⟨by show (-9223372036854775808 : Int) ≤ 1 ∧ (1 : Int) < 9223372036854775808; decide, h, by show (0 : Nat) ≤ 2 ^ 63 - 1; decide, by show (-9223372036854775808 : Int) ≤ 1 ∧ (1 : Int) < 9223372036854775808; decide⟩
theorem nmP_ok (s : ByteArray) : okPacket (nmP s) = nameL s.data.toList := by
  unfold okPacket nmP
  rw [show inR 1 1 1099511627776 = true by decide, show decide ((⟨#[]⟩ : ByteArray).size ≤ 256) = true by decide]
  simp
theorem bPk (s : ByteArray) : Tryd.prog.built 23 [(0, .int .i64 1), (1, .string s), (3, .int .i64 1)] = some #[.int .i64 1, .string s, .string ⟨#[]⟩, .int .i64 1] := by kernel_rfl
theorem bCh (x y : ByteArray) (m : Nat) : Tryd.prog.built 64 [(0, .string x), (1, .string y), (2, .int .i64 1), (3, .map (some m))] = some (chCells x y 1 m).toArray := by kernel_rfl
/-- what New answers -/
def newE20 (x y : ByteArray) : Int := if (nameL x.data.toList && (nameL y.data.toList && !(x.toList == y.toList))) = true then 0 else 183
def CNew20 (w0 : World) (x y : ByteArray) (e : Ending) (w' : World) : Prop :=
  w0.grownBy w' none ∧ ((newE20 x y = 183 ∧ e = .returned (.tuple #[.pointer none, .int .i64 183])) ∨
    (newE20 x y = 0 ∧ ∃ p bm, e = .returned (.tuple #[.pointer (some ⟨p, 0, none⟩), .int .i64 0]) ∧ ChRep w' p bm x y 1 0 (.map []) ∧ w0.heap.size ≤ p ∧ w0.heap.size ≤ bm))
set_option maxHeartbeats 2000000 in
theorem chNew_ok (x y : ByteArray) (hx : x.size ≤ maxLen) (hy : y.size ≤ maxLen) (w0 : World) : Calls Tryd.prog 6 #[.string x, .string y] w0 (CNew20 w0 x y) := by
  have CY := Lib.hid (fun (s : ByteArray) (h : s.size ≤ maxLen) (k : nameL s.data.toList = true) w => EncodePacket_yes (nmP s) w (nmP_wf h) ((nmP_ok s).trans k))
  have CX := Lib.hid (fun (s : ByteArray) (h : s.size ≤ maxLen) (k : nameL s.data.toList = false) w => EncodePacket_no (nmP s) w (nmP_wf h) ((nmP_ok s).trans k))
  have HX := Lib.hid hx; have HY := Lib.hid hy
  have HB := Lib.hid (show newE20 x y = if (nameL x.data.toList && (nameL y.data.toList && !(x.toList == y.toList))) = true then 0 else 183 from rfl)
  clear hx hy
  go_enter Tryd.func6, Tryd.ntmps6
  go_wp2_with fail
  obtain ⟨w1, hw1⟩ : ∃ w1, w0.alloc (.cells #[.string x, .string y] 9) = w1 := ⟨_, rfl⟩
  have b1 : Blk w1 w0.heap.size [.string x, .string y] 9 := hw1 ▸ Blk.new w0 [.string x, .string y] _
  have g1 : w0.grownBy w1 none := hw1 ▸ World.grownBy_alloc w0 _ none
  rw [hw1]
  have B1 := Lib.hid b1; have G1 := Lib.hid g1
  clear b1 g1 hw1
  go_loopw [14] (fun i wr => ∃ k : Nat, k ≤ 2 ∧ i = .int .i64 k ∧ (1 ≤ k → nameL x.data.toList = true) ∧ (2 ≤ k → nameL y.data.toList = true) ∧ w1.grownBy wr none) (fun i _ => 2 - (intOf i).toNat)
  case atStart => exact ⟨0, by omega, rfl, by omega, by omega, World.grownBy.refl _ _⟩
  case round =>
    obtain ⟨k, hk, rfl, h1, h2, hg⟩ := hrel
    have H1 := Lib.hid h1; have H2 := Lib.hid h2; have HG := Lib.hid (G1.out.trans hg); have HGW := Lib.hid hg
    have b2 := B1.out.grown hg (by simp)
    have hc : k = 0 ∨ k = 1 ∨ k = 2 := by omega
    clear h1 h2 hg hk
    rcases hc with rfl | rfl | rfl
    · have c0 := b2.row 0 _ rfl
      rw [Nat.zero_add] at c0
      clear b2
      cases hn : nameL x.data.toList with
      | true =>
        have CE := Lib.hid (CY.out x HX.out hn)
        have HN := Lib.hid hn
        clear hn
        go_wp2_with (first | (refine wpList_build_eq rfl 23 _ rfl [(0, .int .i64 1), (1, .string x), (3, .int .i64 1)] (by kernel_rfl) (nmP x).cells (bPk x) ?_))
        refine (CE.out _).mono ?_
        rintro e w ⟨a, n, c, rfl, _, hb⟩
        have G3 := Lib.hid (HGW.out.trans (below_grown hb))
        clear hb
        go_wp2_with fail
        exact ⟨⟨1, by omega, by go_num, fun _ => by first | exact HN.out | trivial, by omega, G3.out⟩, by simp [intOf]⟩
      | false =>
        have CE := Lib.hid (CX.out x HX.out hn)
        have hb := HB.out
        rw [hn] at hb
        have HB2 := Lib.hid (show newE20 x y = 183 by rw [hb]; rfl)
        clear hn hb
        go_wp2_with (first | (refine wpList_build_eq rfl 23 _ rfl [(0, .int .i64 1), (1, .string x), (3, .int .i64 1)] (by kernel_rfl) (nmP x).cells (bPk x) ?_))
        refine (CE.out _).mono ?_
        rintro e w ⟨rfl, hb⟩
        have HG3 := Lib.hid (HG.out.trans (below_grown hb))
        clear hb
        go_wp2_with fail
        go_ret2
        exact ⟨HG3.out, .inl ⟨HB2.out, rfl⟩⟩
    · have c0 := b2.row 1 _ rfl
      rw [Nat.zero_add] at c0
      clear b2
      cases hn : nameL y.data.toList with
      | true =>
        have CE := Lib.hid (CY.out y HY.out hn)
        have HN := Lib.hid hn
        clear hn
        go_wp2_with (first | (refine wpList_build_eq rfl 23 _ rfl [(0, .int .i64 1), (1, .string y), (3, .int .i64 1)] (by kernel_rfl) (nmP y).cells (bPk y) ?_))
        refine (CE.out _).mono ?_
        rintro e w ⟨a, n, c, rfl, _, hb⟩
        have G3 := Lib.hid (HGW.out.trans (below_grown hb))
        clear hb
        go_wp2_with fail
        exact ⟨⟨2, by omega, by go_num, fun _ => H1.out (by omega), fun _ => by first | exact HN.out | trivial, G3.out⟩, by simp [intOf]⟩
      | false =>
        have CE := Lib.hid (CX.out y HY.out hn)
        have hb := HB.out
        rw [H1.out (by omega)] at hb
        rw [hn] at hb
        have HB2 := Lib.hid (show newE20 x y = 183 by rw [hb]; rfl)
        clear hn hb
        go_wp2_with (first | (refine wpList_build_eq rfl 23 _ rfl [(0, .int .i64 1), (1, .string y), (3, .int .i64 1)] (by kernel_rfl) (nmP y).cells (bPk y) ?_))
        refine (CE.out _).mono ?_
        rintro e w ⟨rfl, hb⟩
        have HG3 := Lib.hid (HG.out.trans (below_grown hb))
        clear hb
        go_wp2_with fail
        go_ret2
        exact ⟨HG3.out, .inl ⟨HB2.out, rfl⟩⟩
    · have hX := H1.out (by omega); have hY := H2.out (by omega)
      have hb := HB.out
      rw [hX, hY] at hb
      clear b2
      cases he : (x.toList == y.toList) with
      | true =>
        rw [he] at hb
        have HB2 := Lib.hid (show newE20 x y = 183 from hb)
        clear hb hX hY
        go_wp2_with fail
        go_ret2
        exact ⟨HG.out, .inl ⟨HB2.out, rfl⟩⟩
      | false =>
        rw [he] at hb
        have HB2 := Lib.hid (show newE20 x y = 0 from hb)
        clear hb hX hY
        go_wp2_with (first | ((with_reducible refine @wpList_at _ _ _ _ _ _ _ (.makeMap 62 none) rfl ?_); refine wpList_mkmapC 62 rfl rfl ?_; have HM0 := Lib.hid (World.ownsMap_made wr Tryd.prog 9 heldS); have G3 := Lib.hid (World.grownBy_alloc wr (.map #[] 0) none); obtain ⟨w3, hw3⟩ : ∃ z, wr.alloc (.map #[] 0) = z := ⟨_, rfl⟩; rw [hw3] at HM0 G3 ⊢; have HW3 := Lib.hid hw3; clear hw3) | ((with_reducible refine @wpList_at _ _ _ _ _ _ _ (.build 64 #[(0, .tmp 30), (1, .tmp 31), (2, .const (.int .i64 1)), (3, .tmp 32)]) rfl ?_); refine wpList_build_eq rfl 64 _ rfl [(0, .string x), (1, .string y), (2, .int .i64 1), (3, .map (some wr.heap.size))] (by kernel_rfl) (chCells x y 1 wr.heap.size) (bCh x y wr.heap.size) ?_) | (refine wpList_box_as rfl 64 _ rfl (chCells x y 1 wr.heap.size) rfl ?_))
        intro w4 b4 g4 s4
        have B4 := Lib.hid b4; have G4 := Lib.hid g4
        clear b4 g4 s4
        go_wp2_with fail
        go_ret2
        have hs := G3.out.size
        exact ⟨(HG.out.trans G3.out).trans G4.out, .inr ⟨HB2.out, _, wr.heap.size, rfl, ⟨B4.out, HM0.out.kept G4.out (by simp), by rw [← HW3.out]; simp⟩, by have := HG.out.size; omega, HG.out.size⟩⟩

def kCommit : ByteArray := ⟨#[99, 111, 109, 109, 105, 116]⟩
def kCommit1 : ByteArray := ⟨#[99, 111, 109, 109, 105, 116, 47, 49]⟩
set_option maxHeartbeats 2000000 in
theorem key1_ok (w : World) : Calls Tryd.prog 23 #[.string kCommit, .int .i64 1] w fun e w' => e = .returned (.string kCommit1) ∧ w.grownBy w' none := by
  go_enter Tryd.func23, Tryd.ntmps23
  go_wp2
  go_ret
  exact ⟨rfl, World.grownBy.refl _ _⟩
theorem chNext_ok {w : World} {p bm : Nat} {own other : ByteArray} {next : Int} {n : Nat} {D : DataW Value} (h : ChRep w p bm own other next n D) : Calls Tryd.prog 12 #[.pointer (some ⟨p, 0, none⟩)] w fun e w' => e = .returned (.int .i64 next) ∧ w.grownBy w' none := by
  have c2 := h.blk.row 2 _ rfl
  rw [Nat.zero_add] at c2
  clear h
  go_enter Tryd.func12, Tryd.ntmps12
  go_wp2
  go_ret
  exact ⟨rfl, World.grownBy.refl _ _⟩
theorem bLen_ok (x : Int) (h0 : 0 ≤ x) (h1 : x ≤ 18446744073709551615) (w : World) : Calls Tryd.prog 43 #[.int .u64 x] w fun e w' => e = .returned (.int .i64 (Lib.bitLen x.toNat)) ∧ w' = w := by
  have C := Lib.hid (Len64_ok x w h0 h1)
  go_enter Tryd.func43, Tryd.ntmps43
  go_wp2_with fail
  refine C.out.mono ?_
  rintro e w' ⟨rfl, rfl⟩
  go_wp2_with fail
  go_ret
  exact ⟨rfl, rfl⟩
section
variable (ao : Option Addr) (c : Nat) (f : Value) (w : World)
theorem ins1_ok : Calls Tryd.prog 60 #[.slice ao 1 c, .int .i64 0, .int .i64 1, f] w fun e w' => e = .returned (.tuple #[]) ∧ w' = w := by
  go_enter Tryd.func60, Tryd.ntmps60
  go_wp2
  go_loopw [8] (fun i wr => i = .int .i64 1 ∧ wr = w) (fun _ _ => 0)
  case atStart => exact ⟨rfl, rfl⟩
  case round =>
    obtain ⟨rfl, rfl⟩ := hrel
    go_wp2
    first | go_end0 | refine bodyPost_ret (results_none rfl _ _ _) rfl ?_
    exact ⟨rfl, rfl⟩
theorem pdq1_ok (lim : Int) : Calls Tryd.prog 42 #[.slice ao 1 c, .int .i64 0, .int .i64 1, .int .i64 lim, f] w fun e w' => e = .returned (.tuple #[]) ∧ w' = w := by
  have C := Lib.hid (ins1_ok ao c f)
  go_enter Tryd.func42, Tryd.ntmps42
  go_wp2_with fail
  go_loopw [1, 2] (fun i j wr => i = .int .i64 0 ∧ j = .int .i64 1 ∧ wr = w) (fun _ _ _ => 0)
  case atStart => exact ⟨rfl, rfl, rfl⟩
  case round =>
    obtain ⟨rfl, rfl, rfl⟩ := hrel
    go_wp2_with fail
    refine (C.out _).mono ?_
    rintro e w' ⟨rfl, rfl⟩
    go_wp2_with fail
    first | go_end0 | refine bodyPost_ret (results_none rfl _ _ _) rfl ?_
    exact ⟨rfl, rfl⟩
theorem sort1_ok : Calls Tryd.prog 24 #[.slice ao 1 c, f] w fun e w' => e = .returned (.tuple #[]) ∧ w' = w := by
  have C := Lib.hid (pdq1_ok ao c f)
  have CL := Lib.hid (bLen_ok 1 (by decide) (by decide))
  go_enter Tryd.func24, Tryd.ntmps24
  go_wp2_with fail
  refine (CL.out _).mono ?_
  rintro e w' ⟨rfl, rfl⟩
  go_wp2_with fail
  refine (C.out _ _).mono ?_
  rintro e w' ⟨rfl, rfl⟩
  go_wp2_with fail
  first | go_end0 | refine bodyPost_ret (results_none rfl _ _ _) rfl ?_
  exact ⟨rfl, rfl⟩
end

end Go.Proofs.YtlahdaanfhedoaaDoor
