/- Walks: on no channel: Send, Receive, Answer, Acknowledge, Expire, Next, Entries, Copy; nunciolaw20.ChannelNil. -/
import Derived.Test.YtlahdaanfhedoaaGreatDoorCh4
namespace Go.Proofs.YtlahdaanfhedoaaGreatDoor
open Go.RowKit Go.Maps
set_option maxRecDepth 100000

def zPkD : PacketD := ⟨0, ⟨#[]⟩, ⟨#[]⟩, 0⟩
theorem bPk0 : Tryz.prog.built 28 [] = some ZPk.toArray := by kernel_rfl
theorem ZPk_one : ∀ x ∈ ZPk, x.oneCell' = true := by simp [ZPk, Value.oneCell']
theorem sizePk : (Tryz.prog.info? 28).map (·.size) = some ZPk.length := by kernel_rfl
set_option maxHeartbeats 2000000 in
theorem chSend_nil (d : ByteArray) (t : Int) (w0 : World) : Calls Tryz.prog 4 #[.pointer none, .string d, .int .i64 t] w0 fun e w' => e = .returned (.tuple #[.agg ZPk.toArray, .int .i64 1]) ∧ w0.grownBy w' none := by
  have O := OwF.start (fun _ => False) w0
  go_enter Tryz.func4, Tryz.ntmps4
  go_wp2_with (first | ((with_reducible refine @wpList_at _ _ _ _ _ _ _ (.alloc 28) rfl ?_); refine @wpList_of_alloc _ _ _ _ _ _ _ _ _ _ 28 rfl ZPk ZPk_info O rfl ?_; clear O; intro b6 w O) | (refine wpList_build_eq rfl 28 _ rfl [] (by kernel_rfl) ZPk bPk0 ?_) | ((with_reducible refine @wpList_at _ _ _ _ _ _ _ (.store 28 (.tmp 6) (.tmp 13)) rfl ?_); refine @wpList_of_store _ _ _ _ _ _ _ _ _ _ 28 (.tmp 6) (.tmp 13) rfl O 0 b6 rfl ZPk ZPk _ rfl rfl rfl ZPk_one sizePk rfl ?_; clear O; intro w O; simp only [List.set_cons_zero] at O))
  refine bodyPost_ret (results_cell_tmp rfl _ _ ⟨b6, 0, none⟩ _ _ rfl rfl (run_loadVar_part _ _ _ 28 ZPk _ (O.row_of (g := b6) (T := 28) (by simp)) Tryz.underlying28 rfl sizePk)) rfl ?_
  exact ⟨rfl, O.tch.grown (fun _ h => h.elim)⟩
set_option maxHeartbeats 2000000 in
theorem chNext_nil (w0 : World) : Calls Tryz.prog 10 #[.pointer none] w0 fun e w' => e = .returned (.int .i64 0) ∧ w0.grownBy w' none := by
  have O := OwF.start (fun _ => False) w0
  go_enter Tryz.func10, Tryz.ntmps10
  go_wp2_with fail
  go_ret
  exact ⟨rfl, O.tch.grown (fun _ h => h.elim)⟩
set_option maxHeartbeats 2000000 in
theorem chEntries_nil (w0 : World) : Calls Tryz.prog 11 #[.pointer none] w0 fun e w' => e = .returned (.slice none 0 0) ∧ w0.grownBy w' none := by
  have O := OwF.start (fun _ => False) w0
  go_enter Tryz.func11, Tryz.ntmps11
  go_wp2_with fail
  go_ret
  exact ⟨rfl, O.tch.grown (fun _ h => h.elim)⟩
set_option maxHeartbeats 2000000 in
theorem chCopy_nil (w0 : World) : Calls Tryz.prog 12 #[.pointer none] w0 fun e w' => e = .returned (.pointer none) ∧ w0.grownBy w' none := by
  have O := OwF.start (fun _ => False) w0
  go_enter Tryz.func12, Tryz.ntmps12
  go_wp2_with fail
  go_ret
  exact ⟨rfl, O.tch.grown (fun _ h => h.elim)⟩
set_option maxHeartbeats 2000000 in
theorem chAnswer_nil (n : Int) (s : ByteArray) (w0 : World) : Calls Tryz.prog 7 #[.pointer none, .int .i64 n, .string s] w0 fun e w' => e = .returned (.int .i64 1) ∧ w0.grownBy w' none := by
  have O := OwF.start (fun _ => False) w0
  go_enter Tryz.func7, Tryz.ntmps7
  go_wp2_with fail
  go_ret
  exact ⟨rfl, O.tch.grown (fun _ h => h.elim)⟩
set_option maxHeartbeats 2000000 in
theorem chReceive_nil (v : PacketD) (self h : Int) (_s : ByteArray) (sz : Int) (pa : Option Addr) (pn pc : Nat) (w0 : World) : Calls Tryz.prog 6 #[.pointer none, .agg v.cells.toArray, .int .i64 self, .pointer none, .int .i64 h, .agg #[.int .i64 sz, .slice pa pn pc]] w0 fun e w' => e = .returned (.int .i64 1) ∧ w0.grownBy w' none := by
  go_enter Tryz.func6, Tryz.ntmps6
  go_wp2
  go_ret
  refine ⟨rfl, ?_⟩
  repeat refine Lib.grownBy_trans ?_ (World.grownBy_alloc _ _ none)
  exact World.grownBy.refl _ _
set_option maxHeartbeats 2000000 in
theorem chAcknowledge_nil (v : PacketD) (_self h : Int) (s : ByteArray) (sz : Int) (pa : Option Addr) (pn pc : Nat) (w0 : World) : Calls Tryz.prog 8 #[.pointer none, .agg v.cells.toArray, .string s, .pointer none, .int .i64 h, .agg #[.int .i64 sz, .slice pa pn pc]] w0 fun e w' => e = .returned (.int .i64 1) ∧ w0.grownBy w' none := by
  go_enter Tryz.func8, Tryz.ntmps8
  go_wp2
  go_ret
  refine ⟨rfl, ?_⟩
  repeat refine Lib.grownBy_trans ?_ (World.grownBy_alloc _ _ none)
  exact World.grownBy.refl _ _
set_option maxHeartbeats 2000000 in
theorem chExpire_nil (v : PacketD) (_self h : Int) (_s : ByteArray) (sz : Int) (pa : Option Addr) (pn pc : Nat) (w0 : World) : Calls Tryz.prog 9 #[.pointer none, .agg v.cells.toArray, .pointer none, .int .i64 h, .agg #[.int .i64 sz, .slice pa pn pc]] w0 fun e w' => e = .returned (.int .i64 1) ∧ w0.grownBy w' none := by
  go_enter Tryz.func9, Tryz.ntmps9
  go_wp2
  go_ret
  refine ⟨rfl, ?_⟩
  repeat refine Lib.grownBy_trans ?_ (World.grownBy_alloc _ _ none)
  exact World.grownBy.refl _ _
theorem rowSub {w : World} {g : Nat} {cs : List Value} (h : RowAt w g 0 cs) (k n : Nat) : RowAt w g k ((cs.drop k).take n) := by
  intro j v hj
  have h1 : cs[k + j]? = some v := by
    rw [List.getElem?_take] at hj
    split at hj
    · rwa [List.getElem?_drop] at hj
    · cases hj
  have := h (k + j) v h1
  rwa [Nat.zero_add] at this
section
variable {F : Nat → Prop} {w0 w : World} {L : List (Nat × List Value × TypeId)} {T : TypeId} {n g : Nat} {a b c d a2 a3 a6 a8 a9 : Value} {cs : List Value}
theorem cells4 (O : OwF F w0 w L) (h : L[n]? = some (g, [a, b, c, d], T)) : w.cell? ⟨g, 0, none⟩ = some a ∧ w.cell? ⟨g, 1, none⟩ = some b ∧ w.cell? ⟨g, 2, none⟩ = some c ∧ w.cell? ⟨g, 3, none⟩ = some d := by
  have r := (O.at_ n h).row
  have r0 := r 0 _ rfl; have r1 := r 1 _ rfl; have r2 := r 2 _ rfl; have r3 := r 3 _ rfl
  rw [Nat.zero_add] at r0 r1 r2 r3
  exact ⟨r0, r1, r2, r3⟩
theorem cells11 (O : OwF F w0 w L) (h : L[n]? = some (g, cs, T)) (h2 : cs[2]? = some a2) (h3 : cs[3]? = some a3) (h6 : cs[6]? = some a6) (h8 : cs[8]? = some a8) (h9 : cs[9]? = some a9) :
    w.cell? ⟨g, 2, none⟩ = some a2 ∧ w.cell? ⟨g, 3, none⟩ = some a3 ∧ w.cell? ⟨g, 6, none⟩ = some a6 ∧ w.cell? ⟨g, 8, none⟩ = some a8 ∧ w.cell? ⟨g, 9, none⟩ = some a9 := by
  have r := (O.at_ n h).row
  have r2 := r 2 _ h2; have r3 := r 3 _ h3; have r6 := r 6 _ h6; have r8 := r 8 _ h8; have r9 := r 9 _ h9
  rw [Nat.zero_add] at r2 r3 r6 r8 r9
  exact ⟨r2, r3, r6, r8, r9⟩
end
theorem pk_flat : flat Tryz.prog 20 28 = some ZPk := by kernel_rfl
set_option maxHeartbeats 8000000 in
theorem ChannelNil_any (ak aa ai aj : Int) (ad : ByteArray) (at_ : Int) (an : ByteArray) (ao : Bool) (sz : Int) (pa : Option Addr) (pn pc : Nat) (ab : Int) (v : PacketD) (hv : v.wf) (w0 : World) (hR : RowAt w0 0 0 (wCells rootsL)) :
    Calls Tryz.prog 3 #[.agg ([.int .i64 ak, .int .i64 aa, .int .i64 ai, .int .i64 aj, .string ad, .int .i64 at_, .string an, .bool ao, .int .i64 sz, .slice pa pn pc, .int .i64 ab] : List Value).toArray, .agg v.cells.toArray] w0 fun e w' => e = .returned (.bool true) ∧ w0.grownBy w' none := by
  have O := OwF.start (fun _ => False) w0
  have CA := Lib.hid (fun w (g : w0.grownBy w none) => alive20_ok w (hR.grown g (by simp)))
  have CS := Lib.hid (fun w => chSend_nil ad at_ w)
  have HV := Lib.hid hv
  have HZ := Lib.hid (show VEq ZPk ZPk = true by simp [ZPk, VEq, KEq])
  have K0 := Lib.hid (fun w => chReceive_nil v ai aj an sz pa pn pc w)
  have K1 := Lib.hid (fun w => chAnswer_nil aj an w)
  have K2 := Lib.hid (fun w => chAcknowledge_nil v ai ai an sz pa pn pc w)
  have K3 := Lib.hid (fun w => chExpire_nil v ai ai an sz pa pn pc w)
  have K4 := Lib.hid (fun w => chNext_nil  w)
  have K5 := Lib.hid (fun w => chEntries_nil  w)
  have K6 := Lib.hid (fun w => chCopy_nil  w)
  clear hR hv
  go_enter Tryz.func3, Tryz.ntmps3
  go_wp2_with (first | ((with_reducible refine @wpList_at _ _ _ _ _ _ _ (.box 26 (.tmp 0)) rfl ?_); refine @wpList_of_box _ _ _ _ _ _ _ _ _ _ 26 (.tmp 0) rfl [.int .i64 ak, .int .i64 aa, .int .i64 ai, .int .i64 aj, .string ad, .int .i64 at_, .string an, .bool ao, .int .i64 sz, .slice pa pn pc, .int .i64 ab] rfl O rfl ?_; clear O; intro b2 w O) | ((with_reducible refine @wpList_at _ _ _ _ _ _ _ (.box 28 (.tmp 1)) rfl ?_); refine @wpList_of_box _ _ _ _ _ _ _ _ _ _ 28 (.tmp 1) rfl v.cells rfl O rfl ?_; clear O; intro b3 w O) | ((with_reducible refine @wpList_at _ _ _ _ _ _ _ (.load 9 (.tmp 10)) rfl ?_); refine @wpList_of_cell _ _ _ _ _ _ _ _ _ _ 9 (.tmp 10) rfl O 1 b2 4 rfl _ _ rfl _ rfl _ Tryz.underlying9 rfl rfl ?_) | ((with_reducible refine @wpList_at _ _ _ _ _ _ _ (.load 3 (.tmp 12)) rfl ?_); refine @wpList_of_cell _ _ _ _ _ _ _ _ _ _ 3 (.tmp 12) rfl O 1 b2 5 rfl _ _ rfl _ rfl _ Tryz.underlying3 rfl rfl ?_))
  refine (CS.out _).mono ?_
  rintro e w ⟨rfl, g⟩
  replace O := O.call g
  clear g
  go_wp2_with (first | ((with_reducible refine @wpList_at _ _ _ _ _ _ _ (.alloc 28) rfl ?_); refine @wpList_of_alloc _ _ _ _ _ _ _ _ _ _ 28 rfl ZPk ZPk_info O rfl ?_; clear O; intro b6 w O) | ((with_reducible refine @wpList_at _ _ _ _ _ _ _ (.store 28 (.tmp 6) (.tmp 15)) rfl ?_); refine @wpList_of_store _ _ _ _ _ _ _ _ _ _ 28 (.tmp 6) (.tmp 15) rfl O 0 b6 rfl ZPk ZPk _ rfl rfl rfl ZPk_one sizePk rfl ?_; clear O; intro w O; simp only [List.set_cons_zero] at O))
  refine (CA.out _ (O.tch.grown (fun _ h => h.elim))).mono ?_
  rintro e w ⟨rfl, g⟩
  replace O := O.call g
  clear g
  have hz := HZ.out
  obtain ⟨x0, x1, x2, x3⟩ := cells4 O (n := 0) (a := .int .i64 0) (b := .string ⟨#[]⟩) (c := .string ⟨#[]⟩) (d := .int .i64 0) rfl
  obtain ⟨y0, y1, y2, y3⟩ := cells4 O (n := 1) (a := .int .i64 v.seq) (b := .string v.from_) (c := .string v.data) (d := .int .i64 v.timeout) rfl
  obtain ⟨z2, z3, z6, z8, z9⟩ := cells11 O (n := 2) (a2 := .int .i64 ai) (a3 := .int .i64 aj) (a6 := .string an) (a8 := .int .i64 sz) (a9 := .slice pa pn pc) rfl rfl rfl rfl rfl rfl
  go_wp2_with (first | ((with_reducible refine @wpList_at _ _ _ _ _ _ _ (.load 28 (.tmp 6)) rfl ?_); refine @wpList_of_whole _ _ _ _ _ _ _ _ _ _ 28 (.tmp 6) rfl O 0 b6 rfl ZPk _ rfl _ Tryz.underlying28 rfl sizePk rfl ?_) | ((with_reducible refine @wpList_at _ _ _ _ _ _ _ (.load 28 (.tmp 3)) rfl ?_); refine @wpList_of_whole _ _ _ _ _ _ _ _ _ _ 28 (.tmp 3) rfl O 1 b3 rfl v.cells _ rfl _ Tryz.underlying28 rfl (PacketD.size v HV.out) rfl ?_) | (refine wpList_build_eq (by kernel_rfl) 28 _ rfl [] (by kernel_rfl) ZPk bPk0 ?_) | (refine wpList_eql_flat (by kernel_rfl) 28 _ _ _ rfl ZPk ZPk _ rfl rfl pk_flat (by decide) (by decide) rfl (by kernel_rfl) ?_) | ((with_reducible refine @wpList_at _ _ _ _ _ _ _ (.load 3 (.tmp 30)) rfl ?_); refine @wpList_of_cell _ _ _ _ _ _ _ _ _ _ 3 (.tmp 30) rfl O 2 b2 2 rfl _ _ rfl _ rfl _ Tryz.underlying3 rfl rfl ?_) | ((with_reducible refine @wpList_at _ _ _ _ _ _ _ (.load 3 (.tmp 32)) rfl ?_); refine @wpList_of_cell _ _ _ _ _ _ _ _ _ _ 3 (.tmp 32) rfl O 2 b2 3 rfl _ _ rfl _ rfl _ Tryz.underlying3 rfl rfl ?_) | ((with_reducible refine @wpList_at _ _ _ _ _ _ _ (.load 3 (.tmp 41)) rfl ?_); refine @wpList_of_cell _ _ _ _ _ _ _ _ _ _ 3 (.tmp 41) rfl O 2 b2 3 rfl _ _ rfl _ rfl _ Tryz.underlying3 rfl rfl ?_) | ((with_reducible refine @wpList_at _ _ _ _ _ _ _ (.load 9 (.tmp 43)) rfl ?_); refine @wpList_of_cell _ _ _ _ _ _ _ _ _ _ 9 (.tmp 43) rfl O 2 b2 6 rfl _ _ rfl _ rfl _ Tryz.underlying9 rfl rfl ?_) | ((with_reducible refine @wpList_at _ _ _ _ _ _ _ (.load 9 (.tmp 51)) rfl ?_); refine @wpList_of_cell _ _ _ _ _ _ _ _ _ _ 9 (.tmp 51) rfl O 2 b2 6 rfl _ _ rfl _ rfl _ Tryz.underlying9 rfl rfl ?_) | ((with_reducible refine @wpList_at _ _ _ _ _ _ _ (.load 3 (.tmp 53)) rfl ?_); refine @wpList_of_cell _ _ _ _ _ _ _ _ _ _ 3 (.tmp 53) rfl O 2 b2 2 rfl _ _ rfl _ rfl _ Tryz.underlying3 rfl rfl ?_) | ((with_reducible refine @wpList_at _ _ _ _ _ _ _ (.load 3 (.tmp 63)) rfl ?_); refine @wpList_of_cell _ _ _ _ _ _ _ _ _ _ 3 (.tmp 63) rfl O 2 b2 2 rfl _ _ rfl _ rfl _ Tryz.underlying3 rfl rfl ?_) | ((with_reducible refine @wpList_at _ _ _ _ _ _ _ (.load 24 (.tmp 34)) rfl ?_); refine @wpList_of_part _ _ _ _ _ _ _ _ _ _ 24 (.tmp 34) rfl O 2 b2 8 rfl _ _ rfl [.int .i64 sz, .slice pa pn pc] _ (fun h => rowSub h 8 2) Tryz.underlying24 rfl (by kernel_rfl) rfl ?_) | ((with_reducible refine @wpList_at _ _ _ _ _ _ _ (.load 24 (.tmp 55)) rfl ?_); refine @wpList_of_part _ _ _ _ _ _ _ _ _ _ 24 (.tmp 55) rfl O 2 b2 8 rfl _ _ rfl [.int .i64 sz, .slice pa pn pc] _ (fun h => rowSub h 8 2) Tryz.underlying24 rfl (by kernel_rfl) rfl ?_) | ((with_reducible refine @wpList_at _ _ _ _ _ _ _ (.load 24 (.tmp 65)) rfl ?_); refine @wpList_of_part _ _ _ _ _ _ _ _ _ _ 24 (.tmp 65) rfl O 2 b2 8 rfl _ _ rfl [.int .i64 sz, .slice pa pn pc] _ (fun h => rowSub h 8 2) Tryz.underlying24 rfl (by kernel_rfl) rfl ?_))
  clear x0 x1 x2 x3 y0 y1 y2 y3 z2 z3 z6 z8 z9
  refine (K0.out _).mono ?_
  rintro e w ⟨rfl, g⟩
  replace O := O.call g
  clear g
  obtain ⟨x0, x1, x2, x3⟩ := cells4 O (n := 0) (a := .int .i64 0) (b := .string ⟨#[]⟩) (c := .string ⟨#[]⟩) (d := .int .i64 0) rfl
  obtain ⟨y0, y1, y2, y3⟩ := cells4 O (n := 1) (a := .int .i64 v.seq) (b := .string v.from_) (c := .string v.data) (d := .int .i64 v.timeout) rfl
  obtain ⟨z2, z3, z6, z8, z9⟩ := cells11 O (n := 2) (a2 := .int .i64 ai) (a3 := .int .i64 aj) (a6 := .string an) (a8 := .int .i64 sz) (a9 := .slice pa pn pc) rfl rfl rfl rfl rfl rfl
  go_wp2_with (first | ((with_reducible refine @wpList_at _ _ _ _ _ _ _ (.load 28 (.tmp 6)) rfl ?_); refine @wpList_of_whole _ _ _ _ _ _ _ _ _ _ 28 (.tmp 6) rfl O 0 b6 rfl ZPk _ rfl _ Tryz.underlying28 rfl sizePk rfl ?_) | ((with_reducible refine @wpList_at _ _ _ _ _ _ _ (.load 28 (.tmp 3)) rfl ?_); refine @wpList_of_whole _ _ _ _ _ _ _ _ _ _ 28 (.tmp 3) rfl O 1 b3 rfl v.cells _ rfl _ Tryz.underlying28 rfl (PacketD.size v HV.out) rfl ?_) | (refine wpList_build_eq (by kernel_rfl) 28 _ rfl [] (by kernel_rfl) ZPk bPk0 ?_) | (refine wpList_eql_flat (by kernel_rfl) 28 _ _ _ rfl ZPk ZPk _ rfl rfl pk_flat (by decide) (by decide) rfl (by kernel_rfl) ?_) | ((with_reducible refine @wpList_at _ _ _ _ _ _ _ (.load 3 (.tmp 30)) rfl ?_); refine @wpList_of_cell _ _ _ _ _ _ _ _ _ _ 3 (.tmp 30) rfl O 2 b2 2 rfl _ _ rfl _ rfl _ Tryz.underlying3 rfl rfl ?_) | ((with_reducible refine @wpList_at _ _ _ _ _ _ _ (.load 3 (.tmp 32)) rfl ?_); refine @wpList_of_cell _ _ _ _ _ _ _ _ _ _ 3 (.tmp 32) rfl O 2 b2 3 rfl _ _ rfl _ rfl _ Tryz.underlying3 rfl rfl ?_) | ((with_reducible refine @wpList_at _ _ _ _ _ _ _ (.load 3 (.tmp 41)) rfl ?_); refine @wpList_of_cell _ _ _ _ _ _ _ _ _ _ 3 (.tmp 41) rfl O 2 b2 3 rfl _ _ rfl _ rfl _ Tryz.underlying3 rfl rfl ?_) | ((with_reducible refine @wpList_at _ _ _ _ _ _ _ (.load 9 (.tmp 43)) rfl ?_); refine @wpList_of_cell _ _ _ _ _ _ _ _ _ _ 9 (.tmp 43) rfl O 2 b2 6 rfl _ _ rfl _ rfl _ Tryz.underlying9 rfl rfl ?_) | ((with_reducible refine @wpList_at _ _ _ _ _ _ _ (.load 9 (.tmp 51)) rfl ?_); refine @wpList_of_cell _ _ _ _ _ _ _ _ _ _ 9 (.tmp 51) rfl O 2 b2 6 rfl _ _ rfl _ rfl _ Tryz.underlying9 rfl rfl ?_) | ((with_reducible refine @wpList_at _ _ _ _ _ _ _ (.load 3 (.tmp 53)) rfl ?_); refine @wpList_of_cell _ _ _ _ _ _ _ _ _ _ 3 (.tmp 53) rfl O 2 b2 2 rfl _ _ rfl _ rfl _ Tryz.underlying3 rfl rfl ?_) | ((with_reducible refine @wpList_at _ _ _ _ _ _ _ (.load 3 (.tmp 63)) rfl ?_); refine @wpList_of_cell _ _ _ _ _ _ _ _ _ _ 3 (.tmp 63) rfl O 2 b2 2 rfl _ _ rfl _ rfl _ Tryz.underlying3 rfl rfl ?_) | ((with_reducible refine @wpList_at _ _ _ _ _ _ _ (.load 24 (.tmp 34)) rfl ?_); refine @wpList_of_part _ _ _ _ _ _ _ _ _ _ 24 (.tmp 34) rfl O 2 b2 8 rfl _ _ rfl [.int .i64 sz, .slice pa pn pc] _ (fun h => rowSub h 8 2) Tryz.underlying24 rfl (by kernel_rfl) rfl ?_) | ((with_reducible refine @wpList_at _ _ _ _ _ _ _ (.load 24 (.tmp 55)) rfl ?_); refine @wpList_of_part _ _ _ _ _ _ _ _ _ _ 24 (.tmp 55) rfl O 2 b2 8 rfl _ _ rfl [.int .i64 sz, .slice pa pn pc] _ (fun h => rowSub h 8 2) Tryz.underlying24 rfl (by kernel_rfl) rfl ?_) | ((with_reducible refine @wpList_at _ _ _ _ _ _ _ (.load 24 (.tmp 65)) rfl ?_); refine @wpList_of_part _ _ _ _ _ _ _ _ _ _ 24 (.tmp 65) rfl O 2 b2 8 rfl _ _ rfl [.int .i64 sz, .slice pa pn pc] _ (fun h => rowSub h 8 2) Tryz.underlying24 rfl (by kernel_rfl) rfl ?_))
  clear x0 x1 x2 x3 y0 y1 y2 y3 z2 z3 z6 z8 z9
  refine (K1.out _).mono ?_
  rintro e w ⟨rfl, g⟩
  replace O := O.call g
  clear g
  obtain ⟨x0, x1, x2, x3⟩ := cells4 O (n := 0) (a := .int .i64 0) (b := .string ⟨#[]⟩) (c := .string ⟨#[]⟩) (d := .int .i64 0) rfl
  obtain ⟨y0, y1, y2, y3⟩ := cells4 O (n := 1) (a := .int .i64 v.seq) (b := .string v.from_) (c := .string v.data) (d := .int .i64 v.timeout) rfl
  obtain ⟨z2, z3, z6, z8, z9⟩ := cells11 O (n := 2) (a2 := .int .i64 ai) (a3 := .int .i64 aj) (a6 := .string an) (a8 := .int .i64 sz) (a9 := .slice pa pn pc) rfl rfl rfl rfl rfl rfl
  go_wp2_with (first | ((with_reducible refine @wpList_at _ _ _ _ _ _ _ (.load 28 (.tmp 6)) rfl ?_); refine @wpList_of_whole _ _ _ _ _ _ _ _ _ _ 28 (.tmp 6) rfl O 0 b6 rfl ZPk _ rfl _ Tryz.underlying28 rfl sizePk rfl ?_) | ((with_reducible refine @wpList_at _ _ _ _ _ _ _ (.load 28 (.tmp 3)) rfl ?_); refine @wpList_of_whole _ _ _ _ _ _ _ _ _ _ 28 (.tmp 3) rfl O 1 b3 rfl v.cells _ rfl _ Tryz.underlying28 rfl (PacketD.size v HV.out) rfl ?_) | (refine wpList_build_eq (by kernel_rfl) 28 _ rfl [] (by kernel_rfl) ZPk bPk0 ?_) | (refine wpList_eql_flat (by kernel_rfl) 28 _ _ _ rfl ZPk ZPk _ rfl rfl pk_flat (by decide) (by decide) rfl (by kernel_rfl) ?_) | ((with_reducible refine @wpList_at _ _ _ _ _ _ _ (.load 3 (.tmp 30)) rfl ?_); refine @wpList_of_cell _ _ _ _ _ _ _ _ _ _ 3 (.tmp 30) rfl O 2 b2 2 rfl _ _ rfl _ rfl _ Tryz.underlying3 rfl rfl ?_) | ((with_reducible refine @wpList_at _ _ _ _ _ _ _ (.load 3 (.tmp 32)) rfl ?_); refine @wpList_of_cell _ _ _ _ _ _ _ _ _ _ 3 (.tmp 32) rfl O 2 b2 3 rfl _ _ rfl _ rfl _ Tryz.underlying3 rfl rfl ?_) | ((with_reducible refine @wpList_at _ _ _ _ _ _ _ (.load 3 (.tmp 41)) rfl ?_); refine @wpList_of_cell _ _ _ _ _ _ _ _ _ _ 3 (.tmp 41) rfl O 2 b2 3 rfl _ _ rfl _ rfl _ Tryz.underlying3 rfl rfl ?_) | ((with_reducible refine @wpList_at _ _ _ _ _ _ _ (.load 9 (.tmp 43)) rfl ?_); refine @wpList_of_cell _ _ _ _ _ _ _ _ _ _ 9 (.tmp 43) rfl O 2 b2 6 rfl _ _ rfl _ rfl _ Tryz.underlying9 rfl rfl ?_) | ((with_reducible refine @wpList_at _ _ _ _ _ _ _ (.load 9 (.tmp 51)) rfl ?_); refine @wpList_of_cell _ _ _ _ _ _ _ _ _ _ 9 (.tmp 51) rfl O 2 b2 6 rfl _ _ rfl _ rfl _ Tryz.underlying9 rfl rfl ?_) | ((with_reducible refine @wpList_at _ _ _ _ _ _ _ (.load 3 (.tmp 53)) rfl ?_); refine @wpList_of_cell _ _ _ _ _ _ _ _ _ _ 3 (.tmp 53) rfl O 2 b2 2 rfl _ _ rfl _ rfl _ Tryz.underlying3 rfl rfl ?_) | ((with_reducible refine @wpList_at _ _ _ _ _ _ _ (.load 3 (.tmp 63)) rfl ?_); refine @wpList_of_cell _ _ _ _ _ _ _ _ _ _ 3 (.tmp 63) rfl O 2 b2 2 rfl _ _ rfl _ rfl _ Tryz.underlying3 rfl rfl ?_) | ((with_reducible refine @wpList_at _ _ _ _ _ _ _ (.load 24 (.tmp 34)) rfl ?_); refine @wpList_of_part _ _ _ _ _ _ _ _ _ _ 24 (.tmp 34) rfl O 2 b2 8 rfl _ _ rfl [.int .i64 sz, .slice pa pn pc] _ (fun h => rowSub h 8 2) Tryz.underlying24 rfl (by kernel_rfl) rfl ?_) | ((with_reducible refine @wpList_at _ _ _ _ _ _ _ (.load 24 (.tmp 55)) rfl ?_); refine @wpList_of_part _ _ _ _ _ _ _ _ _ _ 24 (.tmp 55) rfl O 2 b2 8 rfl _ _ rfl [.int .i64 sz, .slice pa pn pc] _ (fun h => rowSub h 8 2) Tryz.underlying24 rfl (by kernel_rfl) rfl ?_) | ((with_reducible refine @wpList_at _ _ _ _ _ _ _ (.load 24 (.tmp 65)) rfl ?_); refine @wpList_of_part _ _ _ _ _ _ _ _ _ _ 24 (.tmp 65) rfl O 2 b2 8 rfl _ _ rfl [.int .i64 sz, .slice pa pn pc] _ (fun h => rowSub h 8 2) Tryz.underlying24 rfl (by kernel_rfl) rfl ?_))
  clear x0 x1 x2 x3 y0 y1 y2 y3 z2 z3 z6 z8 z9
  refine (K2.out _).mono ?_
  rintro e w ⟨rfl, g⟩
  replace O := O.call g
  clear g
  obtain ⟨x0, x1, x2, x3⟩ := cells4 O (n := 0) (a := .int .i64 0) (b := .string ⟨#[]⟩) (c := .string ⟨#[]⟩) (d := .int .i64 0) rfl
  obtain ⟨y0, y1, y2, y3⟩ := cells4 O (n := 1) (a := .int .i64 v.seq) (b := .string v.from_) (c := .string v.data) (d := .int .i64 v.timeout) rfl
  obtain ⟨z2, z3, z6, z8, z9⟩ := cells11 O (n := 2) (a2 := .int .i64 ai) (a3 := .int .i64 aj) (a6 := .string an) (a8 := .int .i64 sz) (a9 := .slice pa pn pc) rfl rfl rfl rfl rfl rfl
  go_wp2_with (first | ((with_reducible refine @wpList_at _ _ _ _ _ _ _ (.load 28 (.tmp 6)) rfl ?_); refine @wpList_of_whole _ _ _ _ _ _ _ _ _ _ 28 (.tmp 6) rfl O 0 b6 rfl ZPk _ rfl _ Tryz.underlying28 rfl sizePk rfl ?_) | ((with_reducible refine @wpList_at _ _ _ _ _ _ _ (.load 28 (.tmp 3)) rfl ?_); refine @wpList_of_whole _ _ _ _ _ _ _ _ _ _ 28 (.tmp 3) rfl O 1 b3 rfl v.cells _ rfl _ Tryz.underlying28 rfl (PacketD.size v HV.out) rfl ?_) | (refine wpList_build_eq (by kernel_rfl) 28 _ rfl [] (by kernel_rfl) ZPk bPk0 ?_) | (refine wpList_eql_flat (by kernel_rfl) 28 _ _ _ rfl ZPk ZPk _ rfl rfl pk_flat (by decide) (by decide) rfl (by kernel_rfl) ?_) | ((with_reducible refine @wpList_at _ _ _ _ _ _ _ (.load 3 (.tmp 30)) rfl ?_); refine @wpList_of_cell _ _ _ _ _ _ _ _ _ _ 3 (.tmp 30) rfl O 2 b2 2 rfl _ _ rfl _ rfl _ Tryz.underlying3 rfl rfl ?_) | ((with_reducible refine @wpList_at _ _ _ _ _ _ _ (.load 3 (.tmp 32)) rfl ?_); refine @wpList_of_cell _ _ _ _ _ _ _ _ _ _ 3 (.tmp 32) rfl O 2 b2 3 rfl _ _ rfl _ rfl _ Tryz.underlying3 rfl rfl ?_) | ((with_reducible refine @wpList_at _ _ _ _ _ _ _ (.load 3 (.tmp 41)) rfl ?_); refine @wpList_of_cell _ _ _ _ _ _ _ _ _ _ 3 (.tmp 41) rfl O 2 b2 3 rfl _ _ rfl _ rfl _ Tryz.underlying3 rfl rfl ?_) | ((with_reducible refine @wpList_at _ _ _ _ _ _ _ (.load 9 (.tmp 43)) rfl ?_); refine @wpList_of_cell _ _ _ _ _ _ _ _ _ _ 9 (.tmp 43) rfl O 2 b2 6 rfl _ _ rfl _ rfl _ Tryz.underlying9 rfl rfl ?_) | ((with_reducible refine @wpList_at _ _ _ _ _ _ _ (.load 9 (.tmp 51)) rfl ?_); refine @wpList_of_cell _ _ _ _ _ _ _ _ _ _ 9 (.tmp 51) rfl O 2 b2 6 rfl _ _ rfl _ rfl _ Tryz.underlying9 rfl rfl ?_) | ((with_reducible refine @wpList_at _ _ _ _ _ _ _ (.load 3 (.tmp 53)) rfl ?_); refine @wpList_of_cell _ _ _ _ _ _ _ _ _ _ 3 (.tmp 53) rfl O 2 b2 2 rfl _ _ rfl _ rfl _ Tryz.underlying3 rfl rfl ?_) | ((with_reducible refine @wpList_at _ _ _ _ _ _ _ (.load 3 (.tmp 63)) rfl ?_); refine @wpList_of_cell _ _ _ _ _ _ _ _ _ _ 3 (.tmp 63) rfl O 2 b2 2 rfl _ _ rfl _ rfl _ Tryz.underlying3 rfl rfl ?_) | ((with_reducible refine @wpList_at _ _ _ _ _ _ _ (.load 24 (.tmp 34)) rfl ?_); refine @wpList_of_part _ _ _ _ _ _ _ _ _ _ 24 (.tmp 34) rfl O 2 b2 8 rfl _ _ rfl [.int .i64 sz, .slice pa pn pc] _ (fun h => rowSub h 8 2) Tryz.underlying24 rfl (by kernel_rfl) rfl ?_) | ((with_reducible refine @wpList_at _ _ _ _ _ _ _ (.load 24 (.tmp 55)) rfl ?_); refine @wpList_of_part _ _ _ _ _ _ _ _ _ _ 24 (.tmp 55) rfl O 2 b2 8 rfl _ _ rfl [.int .i64 sz, .slice pa pn pc] _ (fun h => rowSub h 8 2) Tryz.underlying24 rfl (by kernel_rfl) rfl ?_) | ((with_reducible refine @wpList_at _ _ _ _ _ _ _ (.load 24 (.tmp 65)) rfl ?_); refine @wpList_of_part _ _ _ _ _ _ _ _ _ _ 24 (.tmp 65) rfl O 2 b2 8 rfl _ _ rfl [.int .i64 sz, .slice pa pn pc] _ (fun h => rowSub h 8 2) Tryz.underlying24 rfl (by kernel_rfl) rfl ?_))
  clear x0 x1 x2 x3 y0 y1 y2 y3 z2 z3 z6 z8 z9
  refine (K3.out _).mono ?_
  rintro e w ⟨rfl, g⟩
  replace O := O.call g
  clear g
  obtain ⟨x0, x1, x2, x3⟩ := cells4 O (n := 0) (a := .int .i64 0) (b := .string ⟨#[]⟩) (c := .string ⟨#[]⟩) (d := .int .i64 0) rfl
  obtain ⟨y0, y1, y2, y3⟩ := cells4 O (n := 1) (a := .int .i64 v.seq) (b := .string v.from_) (c := .string v.data) (d := .int .i64 v.timeout) rfl
  obtain ⟨z2, z3, z6, z8, z9⟩ := cells11 O (n := 2) (a2 := .int .i64 ai) (a3 := .int .i64 aj) (a6 := .string an) (a8 := .int .i64 sz) (a9 := .slice pa pn pc) rfl rfl rfl rfl rfl rfl
  go_wp2_with (first | ((with_reducible refine @wpList_at _ _ _ _ _ _ _ (.load 28 (.tmp 6)) rfl ?_); refine @wpList_of_whole _ _ _ _ _ _ _ _ _ _ 28 (.tmp 6) rfl O 0 b6 rfl ZPk _ rfl _ Tryz.underlying28 rfl sizePk rfl ?_) | ((with_reducible refine @wpList_at _ _ _ _ _ _ _ (.load 28 (.tmp 3)) rfl ?_); refine @wpList_of_whole _ _ _ _ _ _ _ _ _ _ 28 (.tmp 3) rfl O 1 b3 rfl v.cells _ rfl _ Tryz.underlying28 rfl (PacketD.size v HV.out) rfl ?_) | (refine wpList_build_eq (by kernel_rfl) 28 _ rfl [] (by kernel_rfl) ZPk bPk0 ?_) | (refine wpList_eql_flat (by kernel_rfl) 28 _ _ _ rfl ZPk ZPk _ rfl rfl pk_flat (by decide) (by decide) rfl (by kernel_rfl) ?_) | ((with_reducible refine @wpList_at _ _ _ _ _ _ _ (.load 3 (.tmp 30)) rfl ?_); refine @wpList_of_cell _ _ _ _ _ _ _ _ _ _ 3 (.tmp 30) rfl O 2 b2 2 rfl _ _ rfl _ rfl _ Tryz.underlying3 rfl rfl ?_) | ((with_reducible refine @wpList_at _ _ _ _ _ _ _ (.load 3 (.tmp 32)) rfl ?_); refine @wpList_of_cell _ _ _ _ _ _ _ _ _ _ 3 (.tmp 32) rfl O 2 b2 3 rfl _ _ rfl _ rfl _ Tryz.underlying3 rfl rfl ?_) | ((with_reducible refine @wpList_at _ _ _ _ _ _ _ (.load 3 (.tmp 41)) rfl ?_); refine @wpList_of_cell _ _ _ _ _ _ _ _ _ _ 3 (.tmp 41) rfl O 2 b2 3 rfl _ _ rfl _ rfl _ Tryz.underlying3 rfl rfl ?_) | ((with_reducible refine @wpList_at _ _ _ _ _ _ _ (.load 9 (.tmp 43)) rfl ?_); refine @wpList_of_cell _ _ _ _ _ _ _ _ _ _ 9 (.tmp 43) rfl O 2 b2 6 rfl _ _ rfl _ rfl _ Tryz.underlying9 rfl rfl ?_) | ((with_reducible refine @wpList_at _ _ _ _ _ _ _ (.load 9 (.tmp 51)) rfl ?_); refine @wpList_of_cell _ _ _ _ _ _ _ _ _ _ 9 (.tmp 51) rfl O 2 b2 6 rfl _ _ rfl _ rfl _ Tryz.underlying9 rfl rfl ?_) | ((with_reducible refine @wpList_at _ _ _ _ _ _ _ (.load 3 (.tmp 53)) rfl ?_); refine @wpList_of_cell _ _ _ _ _ _ _ _ _ _ 3 (.tmp 53) rfl O 2 b2 2 rfl _ _ rfl _ rfl _ Tryz.underlying3 rfl rfl ?_) | ((with_reducible refine @wpList_at _ _ _ _ _ _ _ (.load 3 (.tmp 63)) rfl ?_); refine @wpList_of_cell _ _ _ _ _ _ _ _ _ _ 3 (.tmp 63) rfl O 2 b2 2 rfl _ _ rfl _ rfl _ Tryz.underlying3 rfl rfl ?_) | ((with_reducible refine @wpList_at _ _ _ _ _ _ _ (.load 24 (.tmp 34)) rfl ?_); refine @wpList_of_part _ _ _ _ _ _ _ _ _ _ 24 (.tmp 34) rfl O 2 b2 8 rfl _ _ rfl [.int .i64 sz, .slice pa pn pc] _ (fun h => rowSub h 8 2) Tryz.underlying24 rfl (by kernel_rfl) rfl ?_) | ((with_reducible refine @wpList_at _ _ _ _ _ _ _ (.load 24 (.tmp 55)) rfl ?_); refine @wpList_of_part _ _ _ _ _ _ _ _ _ _ 24 (.tmp 55) rfl O 2 b2 8 rfl _ _ rfl [.int .i64 sz, .slice pa pn pc] _ (fun h => rowSub h 8 2) Tryz.underlying24 rfl (by kernel_rfl) rfl ?_) | ((with_reducible refine @wpList_at _ _ _ _ _ _ _ (.load 24 (.tmp 65)) rfl ?_); refine @wpList_of_part _ _ _ _ _ _ _ _ _ _ 24 (.tmp 65) rfl O 2 b2 8 rfl _ _ rfl [.int .i64 sz, .slice pa pn pc] _ (fun h => rowSub h 8 2) Tryz.underlying24 rfl (by kernel_rfl) rfl ?_))
  clear x0 x1 x2 x3 y0 y1 y2 y3 z2 z3 z6 z8 z9
  refine (K4.out _).mono ?_
  rintro e w ⟨rfl, g⟩
  replace O := O.call g
  clear g
  obtain ⟨x0, x1, x2, x3⟩ := cells4 O (n := 0) (a := .int .i64 0) (b := .string ⟨#[]⟩) (c := .string ⟨#[]⟩) (d := .int .i64 0) rfl
  obtain ⟨y0, y1, y2, y3⟩ := cells4 O (n := 1) (a := .int .i64 v.seq) (b := .string v.from_) (c := .string v.data) (d := .int .i64 v.timeout) rfl
  obtain ⟨z2, z3, z6, z8, z9⟩ := cells11 O (n := 2) (a2 := .int .i64 ai) (a3 := .int .i64 aj) (a6 := .string an) (a8 := .int .i64 sz) (a9 := .slice pa pn pc) rfl rfl rfl rfl rfl rfl
  go_wp2_with (first | ((with_reducible refine @wpList_at _ _ _ _ _ _ _ (.load 28 (.tmp 6)) rfl ?_); refine @wpList_of_whole _ _ _ _ _ _ _ _ _ _ 28 (.tmp 6) rfl O 0 b6 rfl ZPk _ rfl _ Tryz.underlying28 rfl sizePk rfl ?_) | ((with_reducible refine @wpList_at _ _ _ _ _ _ _ (.load 28 (.tmp 3)) rfl ?_); refine @wpList_of_whole _ _ _ _ _ _ _ _ _ _ 28 (.tmp 3) rfl O 1 b3 rfl v.cells _ rfl _ Tryz.underlying28 rfl (PacketD.size v HV.out) rfl ?_) | (refine wpList_build_eq (by kernel_rfl) 28 _ rfl [] (by kernel_rfl) ZPk bPk0 ?_) | (refine wpList_eql_flat (by kernel_rfl) 28 _ _ _ rfl ZPk ZPk _ rfl rfl pk_flat (by decide) (by decide) rfl (by kernel_rfl) ?_) | ((with_reducible refine @wpList_at _ _ _ _ _ _ _ (.load 3 (.tmp 30)) rfl ?_); refine @wpList_of_cell _ _ _ _ _ _ _ _ _ _ 3 (.tmp 30) rfl O 2 b2 2 rfl _ _ rfl _ rfl _ Tryz.underlying3 rfl rfl ?_) | ((with_reducible refine @wpList_at _ _ _ _ _ _ _ (.load 3 (.tmp 32)) rfl ?_); refine @wpList_of_cell _ _ _ _ _ _ _ _ _ _ 3 (.tmp 32) rfl O 2 b2 3 rfl _ _ rfl _ rfl _ Tryz.underlying3 rfl rfl ?_) | ((with_reducible refine @wpList_at _ _ _ _ _ _ _ (.load 3 (.tmp 41)) rfl ?_); refine @wpList_of_cell _ _ _ _ _ _ _ _ _ _ 3 (.tmp 41) rfl O 2 b2 3 rfl _ _ rfl _ rfl _ Tryz.underlying3 rfl rfl ?_) | ((with_reducible refine @wpList_at _ _ _ _ _ _ _ (.load 9 (.tmp 43)) rfl ?_); refine @wpList_of_cell _ _ _ _ _ _ _ _ _ _ 9 (.tmp 43) rfl O 2 b2 6 rfl _ _ rfl _ rfl _ Tryz.underlying9 rfl rfl ?_) | ((with_reducible refine @wpList_at _ _ _ _ _ _ _ (.load 9 (.tmp 51)) rfl ?_); refine @wpList_of_cell _ _ _ _ _ _ _ _ _ _ 9 (.tmp 51) rfl O 2 b2 6 rfl _ _ rfl _ rfl _ Tryz.underlying9 rfl rfl ?_) | ((with_reducible refine @wpList_at _ _ _ _ _ _ _ (.load 3 (.tmp 53)) rfl ?_); refine @wpList_of_cell _ _ _ _ _ _ _ _ _ _ 3 (.tmp 53) rfl O 2 b2 2 rfl _ _ rfl _ rfl _ Tryz.underlying3 rfl rfl ?_) | ((with_reducible refine @wpList_at _ _ _ _ _ _ _ (.load 3 (.tmp 63)) rfl ?_); refine @wpList_of_cell _ _ _ _ _ _ _ _ _ _ 3 (.tmp 63) rfl O 2 b2 2 rfl _ _ rfl _ rfl _ Tryz.underlying3 rfl rfl ?_) | ((with_reducible refine @wpList_at _ _ _ _ _ _ _ (.load 24 (.tmp 34)) rfl ?_); refine @wpList_of_part _ _ _ _ _ _ _ _ _ _ 24 (.tmp 34) rfl O 2 b2 8 rfl _ _ rfl [.int .i64 sz, .slice pa pn pc] _ (fun h => rowSub h 8 2) Tryz.underlying24 rfl (by kernel_rfl) rfl ?_) | ((with_reducible refine @wpList_at _ _ _ _ _ _ _ (.load 24 (.tmp 55)) rfl ?_); refine @wpList_of_part _ _ _ _ _ _ _ _ _ _ 24 (.tmp 55) rfl O 2 b2 8 rfl _ _ rfl [.int .i64 sz, .slice pa pn pc] _ (fun h => rowSub h 8 2) Tryz.underlying24 rfl (by kernel_rfl) rfl ?_) | ((with_reducible refine @wpList_at _ _ _ _ _ _ _ (.load 24 (.tmp 65)) rfl ?_); refine @wpList_of_part _ _ _ _ _ _ _ _ _ _ 24 (.tmp 65) rfl O 2 b2 8 rfl _ _ rfl [.int .i64 sz, .slice pa pn pc] _ (fun h => rowSub h 8 2) Tryz.underlying24 rfl (by kernel_rfl) rfl ?_))
  clear x0 x1 x2 x3 y0 y1 y2 y3 z2 z3 z6 z8 z9
  refine (K5.out _).mono ?_
  rintro e w ⟨rfl, g⟩
  replace O := O.call g
  clear g
  obtain ⟨x0, x1, x2, x3⟩ := cells4 O (n := 0) (a := .int .i64 0) (b := .string ⟨#[]⟩) (c := .string ⟨#[]⟩) (d := .int .i64 0) rfl
  obtain ⟨y0, y1, y2, y3⟩ := cells4 O (n := 1) (a := .int .i64 v.seq) (b := .string v.from_) (c := .string v.data) (d := .int .i64 v.timeout) rfl
  obtain ⟨z2, z3, z6, z8, z9⟩ := cells11 O (n := 2) (a2 := .int .i64 ai) (a3 := .int .i64 aj) (a6 := .string an) (a8 := .int .i64 sz) (a9 := .slice pa pn pc) rfl rfl rfl rfl rfl rfl
  go_wp2_with (first | ((with_reducible refine @wpList_at _ _ _ _ _ _ _ (.load 28 (.tmp 6)) rfl ?_); refine @wpList_of_whole _ _ _ _ _ _ _ _ _ _ 28 (.tmp 6) rfl O 0 b6 rfl ZPk _ rfl _ Tryz.underlying28 rfl sizePk rfl ?_) | ((with_reducible refine @wpList_at _ _ _ _ _ _ _ (.load 28 (.tmp 3)) rfl ?_); refine @wpList_of_whole _ _ _ _ _ _ _ _ _ _ 28 (.tmp 3) rfl O 1 b3 rfl v.cells _ rfl _ Tryz.underlying28 rfl (PacketD.size v HV.out) rfl ?_) | (refine wpList_build_eq (by kernel_rfl) 28 _ rfl [] (by kernel_rfl) ZPk bPk0 ?_) | (refine wpList_eql_flat (by kernel_rfl) 28 _ _ _ rfl ZPk ZPk _ rfl rfl pk_flat (by decide) (by decide) rfl (by kernel_rfl) ?_) | ((with_reducible refine @wpList_at _ _ _ _ _ _ _ (.load 3 (.tmp 30)) rfl ?_); refine @wpList_of_cell _ _ _ _ _ _ _ _ _ _ 3 (.tmp 30) rfl O 2 b2 2 rfl _ _ rfl _ rfl _ Tryz.underlying3 rfl rfl ?_) | ((with_reducible refine @wpList_at _ _ _ _ _ _ _ (.load 3 (.tmp 32)) rfl ?_); refine @wpList_of_cell _ _ _ _ _ _ _ _ _ _ 3 (.tmp 32) rfl O 2 b2 3 rfl _ _ rfl _ rfl _ Tryz.underlying3 rfl rfl ?_) | ((with_reducible refine @wpList_at _ _ _ _ _ _ _ (.load 3 (.tmp 41)) rfl ?_); refine @wpList_of_cell _ _ _ _ _ _ _ _ _ _ 3 (.tmp 41) rfl O 2 b2 3 rfl _ _ rfl _ rfl _ Tryz.underlying3 rfl rfl ?_) | ((with_reducible refine @wpList_at _ _ _ _ _ _ _ (.load 9 (.tmp 43)) rfl ?_); refine @wpList_of_cell _ _ _ _ _ _ _ _ _ _ 9 (.tmp 43) rfl O 2 b2 6 rfl _ _ rfl _ rfl _ Tryz.underlying9 rfl rfl ?_) | ((with_reducible refine @wpList_at _ _ _ _ _ _ _ (.load 9 (.tmp 51)) rfl ?_); refine @wpList_of_cell _ _ _ _ _ _ _ _ _ _ 9 (.tmp 51) rfl O 2 b2 6 rfl _ _ rfl _ rfl _ Tryz.underlying9 rfl rfl ?_) | ((with_reducible refine @wpList_at _ _ _ _ _ _ _ (.load 3 (.tmp 53)) rfl ?_); refine @wpList_of_cell _ _ _ _ _ _ _ _ _ _ 3 (.tmp 53) rfl O 2 b2 2 rfl _ _ rfl _ rfl _ Tryz.underlying3 rfl rfl ?_) | ((with_reducible refine @wpList_at _ _ _ _ _ _ _ (.load 3 (.tmp 63)) rfl ?_); refine @wpList_of_cell _ _ _ _ _ _ _ _ _ _ 3 (.tmp 63) rfl O 2 b2 2 rfl _ _ rfl _ rfl _ Tryz.underlying3 rfl rfl ?_) | ((with_reducible refine @wpList_at _ _ _ _ _ _ _ (.load 24 (.tmp 34)) rfl ?_); refine @wpList_of_part _ _ _ _ _ _ _ _ _ _ 24 (.tmp 34) rfl O 2 b2 8 rfl _ _ rfl [.int .i64 sz, .slice pa pn pc] _ (fun h => rowSub h 8 2) Tryz.underlying24 rfl (by kernel_rfl) rfl ?_) | ((with_reducible refine @wpList_at _ _ _ _ _ _ _ (.load 24 (.tmp 55)) rfl ?_); refine @wpList_of_part _ _ _ _ _ _ _ _ _ _ 24 (.tmp 55) rfl O 2 b2 8 rfl _ _ rfl [.int .i64 sz, .slice pa pn pc] _ (fun h => rowSub h 8 2) Tryz.underlying24 rfl (by kernel_rfl) rfl ?_) | ((with_reducible refine @wpList_at _ _ _ _ _ _ _ (.load 24 (.tmp 65)) rfl ?_); refine @wpList_of_part _ _ _ _ _ _ _ _ _ _ 24 (.tmp 65) rfl O 2 b2 8 rfl _ _ rfl [.int .i64 sz, .slice pa pn pc] _ (fun h => rowSub h 8 2) Tryz.underlying24 rfl (by kernel_rfl) rfl ?_))
  clear x0 x1 x2 x3 y0 y1 y2 y3 z2 z3 z6 z8 z9
  refine (K6.out _).mono ?_
  rintro e w ⟨rfl, g⟩
  replace O := O.call g
  clear g
  go_wp2_with fail
  go_ret
  exact ⟨rfl, O.tch.grown (fun _ h => h.elim)⟩

end Go.Proofs.YtlahdaanfhedoaaGreatDoor
