/- Walks: the document's hash of a packet, its channel; nunciolaw20.ChannelNames. -/
import Derived.Test.YtlahdaanfhedoaaDoorCh4
import Derived.Test.YtlahdaanfhedoaaDoorRefPa
import Derived.Test.YtlahdaanfhedoaaDoorSchR
namespace Go.Proofs.YtlahdaanfhedoaaDoor
open Go.RowKit Go.Maps
set_option maxRecDepth 100000

def RHashP (v : PacketD) (w0 : World) (e : Ending) (w' : World) : Prop := ∃ X : List UInt8, X.length = 32 ∧ (okPacket v = true → X = hashP v) ∧ e = .returned (.tuple #[.agg (Lib.byteCells X).toArray, .bool (okPacket v)]) ∧ w0.grownBy w' none
set_option maxHeartbeats 2000000 in
theorem RHash20_ok (v : PacketD) (hv : v.wf) (w0 : World) : Calls Tryd.prog 9 #[.agg v.cells.toArray] w0 (RHashP v w0) := by
  have O := OwF.start (fun _ => False) w0
  have HV := Lib.hid hv
  have CE := Lib.hid (fun w => RPacket2 v w hv)
  have HP := Lib.hid (show okPacket v = true → hashP v = blake (6 :: encPacket v) from fun h => by unfold hashP; rw [h]; rfl)
  clear hv
  go_enter Tryd.func9, Tryd.ntmps9
  go_wp2_with (first | (refine @wpList_of_box _ _ _ _ _ _ _ _ _ _ 23 _ rfl v.cells rfl O rfl ?_; clear O; intro b1 w O) | ((with_reducible refine @wpList_at _ _ _ _ _ _ _ (.alloc 33) rfl ?_); refine @wpList_of_alloc _ _ _ _ _ _ _ _ _ _ 33 rfl ZH ZH_info O rfl ?_; clear O; intro b2 w O) | ((with_reducible refine @wpList_at _ _ _ _ _ _ _ (.load 23 (.tmp 1)) rfl ?_); refine @wpList_of_whole _ _ _ _ _ _ _ _ _ _ 23 (.tmp 1) rfl O 1 b1 rfl v.cells _ rfl _ Tryd.underlying23 rfl (PacketD.size v HV.out) rfl ?_))
  refine (CE.out _).mono ?_
  rintro e w ⟨a, n, c, l, rfl, ho, hl, hle, hb⟩
  replace O := O.call (below_grown hb)
  obtain rfl := OwnB.len1 ho
  have E4 := Lib.hid ho.rd; have HL := Lib.hid hl
  have HLN := Lib.hid hle
  clear hb ho hl hle
  go_wp2_with fail
  have g2 : w.grownBy (w.alloc (.cells #[.slice a l.length c] 59)) none := World.grownBy_alloc w _ none
  obtain ⟨w2, hw2⟩ : ∃ w2, w.alloc (.cells #[.slice a l.length c] 59) = w2 := ⟨_, rfl⟩
  have r2 : RdL w2 (.slice (some ⟨w.heap.size, 0, none⟩) 1 1) [l] := by
    refine ⟨_, 1, [.slice a l.length c], rfl, Nat.le_refl _, by simp [maxLen], rfl, fun i l' hi => ?_, Or.inr ⟨_, 0, rfl, ?_, ?_⟩⟩
    · have hi0 : i = 0 := by have := (List.getElem?_eq_some_iff.1 hi).1; simp at this; exact this
      subst hi0
      injection hi with hi
      subst hi
      exact ⟨_, rfl, hw2 ▸ E4.out.grown g2⟩
    · rw [← hw2]; simp
    · rw [← hw2]; exact RowAt_box w [.slice a l.length c] _
  rw [hw2] at g2 ⊢
  replace O := O.call g2
  have e1 : [l].flatten = l := by simp
  have C := rjoin_ok 6 [l] _ w2 r2 (by rw [e1]; have := HLN.out; omega)
  rw [e1] at C
  have hX : (blake (6 :: l)).length = 32 := blake_len _
  have hXe : okPacket v = true → blake (6 :: l) = hashP v := fun h => by rw [HP.out h, HL.out h]
  obtain ⟨X, hXX⟩ : ∃ z, blake (6 :: l) = z := ⟨_, rfl⟩
  rw [hXX] at C hX hXe
  have HX := Lib.hid hX; have HXE := Lib.hid hXe
  clear hw2 g2 r2 e1 hXX hX hXe
  refine C.mono ?_
  rintro e w3 ⟨rfl, g3⟩
  replace O := O.call g3
  clear g3 C
  go_wp2_with (first | ((with_reducible refine @wpList_at _ _ _ _ _ _ _ (.store 33 (.tmp 2) (.tmp 13)) rfl ?_); refine @wpList_of_store _ _ _ _ _ _ _ _ _ _ 33 (.tmp 2) (.tmp 13) rfl O 0 b2 rfl (Lib.byteCells X) ZH _ rfl rfl (by rw [Lib.byteCells_length, HX.out]; rfl) (oneCell_bytes _) (sizeH _ (by rw [Lib.byteCells_length, HX.out])) rfl ?_; clear O; intro w O; simp only [List.set_cons_zero] at O))
  refine bodyPost_ret (results_cell_tmp rfl _ _ ⟨b2, 0, none⟩ _ _ rfl rfl (run_loadVar_part _ _ _ 33 (Lib.byteCells X) _ (O.row_of (g := b2) (T := 33) (by simp)) Tryd.underlying33 rfl (sizeH _ (by rw [Lib.byteCells_length, HX.out])))) rfl ?_
  exact ⟨X, HX.out, HXE.out, rfl, O.tch.grown (fun _ h => h.elim)⟩
theorem bRCh (x y : ByteArray) : Tryd.prog.built 67 [(0, .string x), (1, .string y), (2, .int .i64 1)] = some #[.string x, .string y, .int .i64 1, .slice none 0 0] := by kernel_rfl
set_option maxHeartbeats 2000000 in
theorem RNew20_ok (x y : ByteArray) (hx : x.size ≤ maxLen) (hy : y.size ≤ maxLen) (w0 : World) : Calls Tryd.prog 7 #[.string x, .string y] w0 fun e w' => ∃ P, e = .returned (.tuple #[P, .int .i64 (newE20 x y)]) ∧ w0.grownBy w' none := by
  have CX := Lib.hid (fun w => Name_any x w hx); have CY := Lib.hid (fun w => Name_any y w hy)
  have HB := Lib.hid (show newE20 x y = if (nameL x.data.toList && (nameL y.data.toList && !(x.toList == y.toList))) = true then 0 else 183 from rfl)
  have O := OwF.start (fun _ => False) w0
  clear hx hy
  obtain ⟨E, hE⟩ : ∃ z, newE20 x y = z := ⟨_, rfl⟩
  rw [hE] at HB ⊢
  obtain ⟨p, hp⟩ : ∃ z, nameL x.data.toList = z := ⟨_, rfl⟩
  obtain ⟨q, hq⟩ : ∃ z, nameL y.data.toList = z := ⟨_, rfl⟩
  obtain ⟨s, hs⟩ : ∃ z, (x.toList == y.toList) = z := ⟨_, rfl⟩
  rw [hp] at CX HB; rw [hq] at CY HB
  have HS := Lib.hid hs
  have hb := HB.out
  rw [hs] at hb
  have HB2 := Lib.hid hb
  clear hE hp hq hb HB hs
  go_enter Tryd.func7, Tryd.ntmps7
  go_wp2_with fail
  refine (CX.out _).mono ?_
  rintro e w ⟨rfl, rfl⟩
  go_wp2_with fail
  refine (CY.out _).mono ?_
  rintro e w ⟨rfl, rfl⟩
  cases p with
  | false =>
    have hE : E = 183 := HB2.out
    go_wp2_with fail
    go_ret2
    rw [hE]
    exact ⟨_, rfl, World.grownBy.refl _ _⟩
  | true =>
    cases q with
    | false =>
      have hE : E = 183 := HB2.out
      go_wp2_with fail
      go_ret2
      rw [hE]
      exact ⟨_, rfl, World.grownBy.refl _ _⟩
    | true =>
      cases s with
      | true =>
        have hE : E = 183 := HB2.out
        have hs := HS.out
        go_wp2_with fail
        go_ret2
        rw [hE]
        exact ⟨_, rfl, World.grownBy.refl _ _⟩
      | false =>
        have hE : E = 0 := HB2.out
        have hs := HS.out
        go_wp2_with (first | (refine wpList_build_eq rfl 67 _ rfl [(0, .string x), (1, .string y), (2, .int .i64 1)] (by kernel_rfl) [.string x, .string y, .int .i64 1, .slice none 0 0] (bRCh x y) ?_) | ((with_reducible refine @wpList_at _ _ _ _ _ _ _ (.box 67 (.tmp 25)) rfl ?_); refine @wpList_of_box _ _ _ _ _ _ _ _ _ _ 67 (.tmp 25) rfl [.string x, .string y, .int .i64 1, .slice none 0 0] rfl O rfl ?_; clear O; intro b w O))
        go_ret2
        rw [hE]
        exact ⟨_, rfl, O.tch.grown (fun _ h => h.elim)⟩

end Go.Proofs.YtlahdaanfhedoaaDoor
