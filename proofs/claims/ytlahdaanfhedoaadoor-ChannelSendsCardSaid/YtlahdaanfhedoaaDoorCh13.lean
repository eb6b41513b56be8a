/- Walks: the document's text of a hash; an answer to what was not received. -/
import Derived.Test.YtlahdaanfhedoaaDoorCh12
namespace Go.Proofs.YtlahdaanfhedoaaDoor
open Go.RowKit Go.Maps
set_option maxRecDepth 100000

def f1S (n : Nat) : ByteArray := ⟨#[fig n]⟩
theorem run_sl (n : Nat) (hn : n < 16) (w : World) : (Instr.sliceAt 9 (.string figS) (some (.int .u8 (n : Int))) (some (.int .u8 ((n + 1 : Nat) : Int))) none).run Tryd.prog w = .ok (.string (f1S n)) w := by
  have h : n = 0 ∨ n = 1 ∨ n = 2 ∨ n = 3 ∨ n = 4 ∨ n = 5 ∨ n = 6 ∨ n = 7 ∨ n = 8 ∨ n = 9 ∨ n = 10 ∨ n = 11 ∨ n = 12 ∨ n = 13 ∨ n = 14 ∨ n = 15 := by omega
  rcases h with rfl | rfl | rfl | rfl | rfl | rfl | rfl | rfl | rfl | rfl | rfl | rfl | rfl | rfl | rfl | rfl <;> rfl
theorem run_sl_op {o : Oper} {a : Act} (x y z : Operand) (ho : o.op = .slice 9 x (some y) (some z) none) (n : Nat) (hn : n < 16) (hx : a.eval x = .string figS) (hy : a.eval y = .int .u8 (n : Int)) (hz : a.eval z = .int .u8 ((n + 1 : Nat) : Int)) (w : World) : (execOp a.eval o).run Tryd.prog w = .ok (.value (.string (f1S n))) w := by
  unfold execOp
  simp only [ho, hx, hy, hz, Option.map_some, Option.map_none, Sem.run_bind, run_sl n hn, Result.andThen_ok, Sem.run_pure]
theorem run_cat (s t : ByteArray) (h : s.size + t.size ≤ 9223372036854775807) (T : TypeId) (w : World) : (binOp .add T (.string s) (.string t)).run Tryd.prog w = .ok (.string (s ++ t)) w := by
  have e : ¬ ((s.size + t.size : Nat) : Int) > IntKind.i64.max := by show ¬ ((s.size + t.size : Nat) : Int) > 9223372036854775807; omega
  simp only [binOp, Op.stringOp]
  rw [if_neg e]; rfl
theorem run_cat_op {o : Oper} {a : Act} (x y : Operand) (T U : TypeId) (ho : o.op = .binOp .add T x y U) (s t : ByteArray) (h : s.size + t.size ≤ 9223372036854775807) (hx : a.eval x = .string s) (hy : a.eval y = .string t) (w : World) : (execOp a.eval o).run Tryd.prog w = .ok (.value (.string (s ++ t))) w := by
  unfold execOp
  have hg : (eqGuard .add T x y (.string s) (.string t)).run Tryd.prog w = .ok () w := rfl
  simp only [ho, hx, hy, Sem.run_bind, Sem.run_pure, hg, Result.andThen_ok, run_cat s t h]
theorem hex_step (l : List UInt8) (u : UInt8) : (⟨(hexL l).toArray⟩ : ByteArray) ++ f1S (u.toNat / 16) ++ f1S (u.toNat % 16) = ⟨(hexL (l ++ [u])).toArray⟩ := by
  rw [hexL_snoc]
  apply ByteArray.ext
  rw [ByteArray.data_append, ByteArray.data_append]
  unfold f1S
  apply Array.ext'
  simp
set_option maxHeartbeats 4000000 in
theorem rText_ok (l : List UInt8) (hl : l.length = 32) (w0 : World) : Calls Tryd.prog 15 #[.agg (Lib.byteCells l).toArray] w0 fun e w' => e = .returned (.string ⟨(hexL l).toArray⟩) ∧ w0.grownBy w' none := by
  have O := OwF.start (fun _ => False) w0
  have HL := Lib.hid hl
  clear hl
  go_enter Tryd.func15, Tryd.ntmps15
  go_wp2_with (first | ((with_reducible refine @wpList_at _ _ _ _ _ _ _ (.box 33 (.tmp 0)) rfl ?_); refine @wpList_of_box _ _ _ _ _ _ _ _ _ _ 33 (.tmp 0) rfl (Lib.byteCells l) rfl O rfl ?_; clear O; intro b w O))
  have HO := Lib.hid O
  go_loopw [3, 5] (fun s i wr => ∃ k : Nat, k ≤ 32 ∧ i = .int .i64 k ∧ s = .string ⟨(hexL (l.take k)).toArray⟩ ∧ OwF (fun _ => False) w0 wr [(b, Lib.byteCells l, 33)]) (fun _ i _ => 32 - (intOf i).toNat)
  case atStart => exact ⟨0, Nat.zero_le _, rfl, rfl, O⟩
  case round =>
    clear O
    obtain ⟨k, hk, rfl, rfl, O⟩ := hrel
    have HO2 := Lib.hid O
    by_cases hlt : k < 32
    · have hk2 : k < l.length := by rw [HL.out]; exact hlt
      obtain ⟨u, hu⟩ : ∃ u, l[k] = u := ⟨_, rfl⟩
      have HS := Lib.hid (show l.take (k + 1) = l.take k ++ [u] by rw [List.take_succ_eq_append_getElem hk2, hu])
      have hst := hex_step (l.take k) u
      rw [← HS.out] at hst
      have hsz : (⟨(hexL (l.take k)).toArray⟩ : ByteArray).size ≤ 64 := by
        show (hexL (l.take k)).toArray.size ≤ 64
        simp only [List.size_toArray, hexL_len, List.length_take]; omega
      obtain ⟨S, hS⟩ : ∃ z : ByteArray, ⟨(hexL (l.take k)).toArray⟩ = z := ⟨_, rfl⟩
      rw [hS] at hst hsz ⊢
      have CELL := Lib.hid (fun w (O : OwF (fun _ => False) w0 w [(b, Lib.byteCells l, 33)]) => RowAt.one (show w.cell? ⟨b, 0 + k, none⟩ = some (.int .u8 (u.toNat : Int)) from (O.at_ 0 rfl).row k _ (by rw [byteCells_get _ k hk2, hu])))
      rw [Nat.zero_add] at CELL
      obtain ⟨q, hq⟩ : ∃ q, u.toNat / 16 = q := ⟨_, rfl⟩
      obtain ⟨r, hr⟩ : ∃ r, u.toNat % 16 = r := ⟨_, rfl⟩
      rw [hq, hr] at hst
      have hul := u.toNat_lt
      obtain ⟨n, hn⟩ : ∃ n, u.toNat = n := ⟨_, rfl⟩
      rw [hn] at hq hr hul CELL
      have HST := Lib.hid hst; have HSZ := Lib.hid hsz
      have HQ := Lib.hid (show q < 16 by omega); have HR := Lib.hid (show r < 16 by omega)
      have e1 : ((n : Int) / 16) = (q : Int) := by omega
      have e2 : ((n : Int).tdiv 16) = (q : Int) := by rw [Int.tdiv_eq_ediv_of_nonneg (by omega)]; exact e1
      have e3 : ((n : Int) % 16) = (r : Int) := by omega
      have e4 : ((n : Int).tmod 16) = (r : Int) := by rw [Int.tmod_eq_emod_of_nonneg (by omega)]; exact e3
      have w1 := IntWalk.u8_in (q : Int) (by omega); have w2 := IntWalk.u8_in (r : Int) (by omega)
      have w3 := IntWalk.u8_in ((q : Int) + 1) (by omega); have w4 := IntWalk.u8_in ((r : Int) + 1) (by omega)
      have hix : ¬ ((32 : Int) ≤ (k : Int)) := by omega
      clear hk2 hu hS hq hr hn hul hst hsz
      go_upto_region 6 with fail
      replace O := O.drew
      refine wp_region_J (rdf [(4, b, k, [(.int .u8 (n : Int))]), (8, b, k, [(.int .u8 (n : Int))]), (16, b, k, [(.int .u8 (n : Int))]), (20, b, k, [(.int .u8 (n : Int))])]) [] (by kernel_rfl) (RdA.cons (CELL.out _ O) (RdA.cons (CELL.out _ O) (RdA.cons (CELL.out _ O) (RdA.cons (CELL.out _ O) RdA.nil)))) (fun hH => ?_)
      refine jp 0 ((.string S)) (Still.all hH) ?_
      simp only [Act.put, jq1, jq2, jq3, jq4, jq5, jq6]
      refine jp 1 ((.string ⟨#[48, 49, 50, 51, 52, 53, 54, 55, 56, 57, 97, 98, 99, 100, 101, 102]⟩)) (Still.all hH) ?_
      simp only [Act.put, jq1, jq2, jq3, jq4, jq5, jq6]
      refine jp 2 ((.int .i64 (k : Int))) (Still.all hH) ?_
      simp only [Act.put, jq1, jq2, jq3, jq4, jq5, jq6]
      refine jp 3 ((.pointer (some ⟨b, k, none⟩))) (Still.all hH) ?_
      simp only [Act.put, jq1, jq2, jq3, jq4, jq5, jq6]
      refine jr 0 4 ((.int .u8 (n : Int))) rfl rfl (yields_cell (by rfl) 5 _ rfl b k rfl (.int .u8 (n : Int)) _ (fun W h => h) Tryd.underlying5 rfl) (Still.all hH) ?_
      simp only [Act.put, jq1, jq2, jq3, jq4, jq5, jq6]
      refine jp 5 ((.int .u8 (q : Int))) (Still.all hH) ?_
      simp only [Act.put, jq1, jq2, jq3, jq4, jq5, jq6]
      refine jp 6 ((.int .i64 (k : Int))) (Still.all hH) ?_
      simp only [Act.put, jq1, jq2, jq3, jq4, jq5, jq6]
      refine jp 7 ((.pointer (some ⟨b, k, none⟩))) (Still.all hH) ?_
      simp only [Act.put, jq1, jq2, jq3, jq4, jq5, jq6]
      refine jr 1 8 ((.int .u8 (n : Int))) rfl rfl (yields_cell (by rfl) 5 _ rfl b k rfl (.int .u8 (n : Int)) _ (fun W h => h) Tryd.underlying5 rfl) (Still.all hH) ?_
      simp only [Act.put, jq1, jq2, jq3, jq4, jq5, jq6]
      refine jp 9 ((.int .u8 (q : Int))) (Still.all hH) ?_
      simp only [Act.put, jq1, jq2, jq3, jq4, jq5, jq6]
      refine jp 10 ((.int .u8 ((q + 1 : Nat) : Int))) (Still.all hH) ?_
      simp only [Act.put, jq1, jq2, jq3, jq4, jq5, jq6]
      refine jp 11 ((.string (f1S q))) (Still.all hH) ?_ (hy := (Or.inl ⟨by rfl, fun W _ => run_sl_op _ _ _ rfl q HQ.out rfl rfl rfl W⟩))
      simp only [Act.put, jq1, jq2, jq3, jq4, jq5, jq6]
      refine jp 12 ((.string (S ++ f1S q))) (Still.all hH) ?_ (hy := (Or.inl ⟨by rfl, fun W _ => run_cat_op _ _ _ _ rfl S (f1S q) (by have h1 : (f1S q).size = 1 := rfl; have := HSZ.out; omega) rfl rfl W⟩))
      simp only [Act.put, jq1, jq2, jq3, jq4, jq5, jq6]
      refine jp 13 ((.string ⟨#[48, 49, 50, 51, 52, 53, 54, 55, 56, 57, 97, 98, 99, 100, 101, 102]⟩)) (Still.all hH) ?_
      simp only [Act.put, jq1, jq2, jq3, jq4, jq5, jq6]
      refine jp 14 ((.int .i64 (k : Int))) (Still.all hH) ?_
      simp only [Act.put, jq1, jq2, jq3, jq4, jq5, jq6]
      refine jp 15 ((.pointer (some ⟨b, k, none⟩))) (Still.all hH) ?_
      simp only [Act.put, jq1, jq2, jq3, jq4, jq5, jq6]
      refine jr 2 16 ((.int .u8 (n : Int))) rfl rfl (yields_cell (by rfl) 5 _ rfl b k rfl (.int .u8 (n : Int)) _ (fun W h => h) Tryd.underlying5 rfl) (Still.all hH) ?_
      simp only [Act.put, jq1, jq2, jq3, jq4, jq5, jq6]
      refine jp 17 ((.int .u8 (r : Int))) (Still.all hH) ?_
      simp only [Act.put, jq1, jq2, jq3, jq4, jq5, jq6]
      refine jp 18 ((.int .i64 (k : Int))) (Still.all hH) ?_
      simp only [Act.put, jq1, jq2, jq3, jq4, jq5, jq6]
      refine jp 19 ((.pointer (some ⟨b, k, none⟩))) (Still.all hH) ?_
      simp only [Act.put, jq1, jq2, jq3, jq4, jq5, jq6]
      refine jr 3 20 ((.int .u8 (n : Int))) rfl rfl (yields_cell (by rfl) 5 _ rfl b k rfl (.int .u8 (n : Int)) _ (fun W h => h) Tryd.underlying5 rfl) (Still.all hH) ?_
      simp only [Act.put, jq1, jq2, jq3, jq4, jq5, jq6]
      refine jp 21 ((.int .u8 (r : Int))) (Still.all hH) ?_
      simp only [Act.put, jq1, jq2, jq3, jq4, jq5, jq6]
      refine jp 22 ((.int .u8 ((r + 1 : Nat) : Int))) (Still.all hH) ?_
      simp only [Act.put, jq1, jq2, jq3, jq4, jq5, jq6]
      refine jp 23 ((.string (f1S r))) (Still.all hH) ?_ (hy := (Or.inl ⟨by rfl, fun W _ => run_sl_op _ _ _ rfl r HR.out rfl rfl rfl W⟩))
      simp only [Act.put, jq1, jq2, jq3, jq4, jq5, jq6]
      refine jp 24 ((.string (S ++ f1S q ++ f1S r))) (Still.all hH) ?_ (hy := (Or.inl ⟨by rfl, fun W _ => run_cat_op _ _ _ _ rfl (S ++ f1S q) (f1S r) (by have h1 : (f1S q).size = 1 := rfl; have h2 : (f1S r).size = 1 := rfl; have := HSZ.out; rw [ByteArray.size_append]; omega) rfl rfl W⟩))
      simp only [Act.put, jq1, jq2, jq3, jq4, jq5, jq6]
      refine jp 25 ((.string (S ++ f1S q ++ f1S r))) (Still.all hH) ?_
      simp only [Act.put, jq1, jq2, jq3, jq4, jq5, jq6]
      refine wpAnyJ_done (by kernel_rfl) ?_ _
      rw [HST.out]
      clear hH
      go_wp2_with fail
      exact ⟨⟨k + 1, by omega, by go_num, by first | rfl | trivial, O⟩, by simp [intOf]; omega⟩
    · obtain rfl : k = 32 := by omega
      rw [List.take_of_length_le (by rw [HL.out]; exact Nat.le_refl _)]
      go_wp2_with fail
      go_ret
      exact ⟨rfl, O.tch.grown (fun _ h => h.elim)⟩
/-! what a channel lacks -/
theorem item_z (w : World) : (zeroValue 72).run Tryd.prog w = .ok (itemV ⟨#[]⟩) w := by kernel_rfl
theorem item_held : heldS (itemV ⟨#[]⟩) = some (.held (itemV ⟨#[]⟩), []) := rfl
section
variable {P : Program} {ops : Array Oper} {rest : List Oper} {o : Oper} {a : Act} {w : World} {Q : Exit → Act → World → Prop}
theorem wpList_lookC (t : TypeId) (m x : Operand) (c : Bool) (ho : o.op = .lookup t m x c) {mv kv u : Value} (hm : a.eval m = mv) (hx : a.eval x = kv) (hrun : (Instr.lookup t mv kv c).run P w = .ok u w) (hgd : Region.wanted o (yielded ops a.tmps) = true)
    (h : wpList P ops Q rest (a.put o.dst u) w) : wpList P ops Q (o :: rest) a w := by
  refine wpList_wanted hgd fun K hK => ?_
  unfold Oper.wp execOp
  simp only [ho, hm, hx, Sem.run_bind, Sem.run_pure, Result.andThen_ok, hrun]
  exact hK _ _ h
end
set_option maxHeartbeats 2000000 in
theorem has_no {w0 : World} {p bm n : Nat} {x y : ByteArray} {next : Int} {D : DataW Value} (h : ChRep w0 p bm x y next n D) (s : ByteArray) (hs : s.size ≤ maxLen) (hno : has D (keyL s) = false) : Calls Tryd.prog 28 #[.pointer (some ⟨p, 0, none⟩), .string s] w0 fun e w' => e = .returned (.bool false) ∧ w0.grownBy w' none := by
  have O := OwF.start (fun _ => False) w0
  have c3 := h.blk.row 3 _ rfl
  rw [Nat.zero_add] at c3
  obtain ⟨v, ps, hrun, hv⟩ := h.map.look_ok (t := 62) strmap_keyed Tryd.underlying62 (item_z w0) item_held (str_key s hs)
  have hv2 : v = itemV ⟨#[]⟩ := by
    unfold heldS at hv
    injection hv with hv
    injection hv with hv _
    rw [show D.atKey (.string s.data.toList) (.held (itemV ⟨#[]⟩)) = .held (itemV ⟨#[]⟩) from atKey_of_not_has hno _] at hv
    injection hv
  subst hv2
  rw [show has D (.string s.data.toList) = false from hno] at hrun
  have HRUN := Lib.hid hrun
  clear h hs hno hv hrun
  go_enter Tryd.func28, Tryd.ntmps28
  go_wp2_with (first | ((with_reducible refine @wpList_at _ _ _ _ _ _ _ (.lookup 62 (.tmp 11) (.tmp 12) true) rfl ?_); refine wpList_lookC 62 _ _ true rfl rfl rfl HRUN.out rfl ?_) | ((with_reducible refine @wpList_at _ _ _ _ _ _ _ (.alloc 72) rfl ?_); refine @wpList_of_alloc _ _ _ _ _ _ _ _ _ _ 72 rfl [Value.string ⟨#[]⟩] ZIt2 O rfl ?_; clear O; intro b5 w O) | ((with_reducible refine @wpList_at _ _ _ _ _ _ _ (.store 72 (.tmp 5) (.tmp 14)) rfl ?_); refine @wpList_of_store _ _ _ _ _ _ _ _ _ _ 72 (.tmp 5) (.tmp 14) rfl O 0 b5 rfl [.string ⟨#[]⟩] [Value.string ⟨#[]⟩] _ rfl rfl rfl (by simp [Value.oneCell']) rfl rfl ?_; clear O; intro w O; simp only [List.set_cons_zero] at O))
  go_ret
  exact ⟨rfl, O.tch.grown (fun _ h => h.elim)⟩
def kReceipt : ByteArray := ⟨#[114, 101, 99, 101, 105, 112, 116]⟩
def okS : ByteArray := ⟨#[111, 107]⟩
set_option maxHeartbeats 2000000 in
theorem answer_no {w0 : World} {p bm n : Nat} {x y : ByteArray} {next : Int} {D : DataW Value} (h : ChRep w0 p bm x y next n D) (m : Nat) (hm : m < 100) (s : ByteArray) (hno : has D (keyL (keyS kReceipt m)) = false) : Calls Tryd.prog 16 #[.pointer (some ⟨p, 0, none⟩), .int .i64 (m : Int), .string s] w0 fun e w' => e = .returned (.int .i64 201) ∧ w0.grownBy w' none := by
  have CK := Lib.hid (key_ok kReceipt (by decide) m hm w0)
  have hsz : (keyS kReceipt m).size ≤ maxLen := by unfold keyS; have := dig_size m; rw [ByteArray.size_append, ByteArray.size_append]; show 7 + 1 + (digS m).size ≤ 9223372036854775807; omega
  have CH := Lib.hid (has_no h (keyS kReceipt m) hsz hno)
  obtain ⟨KK, hKK⟩ : ∃ z, keyS kReceipt m = z := ⟨_, rfl⟩
  rw [hKK] at CK CH
  clear h hm hno hsz hKK
  go_enter Tryd.func16, Tryd.ntmps16
  go_wp2_with fail
  refine CK.out.mono ?_
  rintro e w ⟨rfl, rfl⟩
  go_wp2_with fail
  refine CH.out.mono ?_
  rintro e w ⟨rfl, g⟩
  have G := Lib.hid g
  clear g
  go_wp2_with fail
  go_ret
  exact ⟨rfl, G.out⟩

end Go.Proofs.YtlahdaanfhedoaaDoor
