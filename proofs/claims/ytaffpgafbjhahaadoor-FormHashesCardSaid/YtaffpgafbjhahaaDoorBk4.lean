/- Walk of a block. -/
import Derived.Test.YtaffpgafbjhahaaDoorBkG
import Derived.Laws.CopyOwn
namespace Go.Proofs.YtaffpgafbjhahaaDoor
open Go.RowKit
set_option maxRecDepth 100000

/-- a state's cells -/
def sCells (H : List Nat) (B : List UInt8) (n done : Nat) : List Value := wCells H ++ Lib.byteCells B ++ [.int .i64 (n : Int), .int .u64 (done : Int)]
theorem Z16_info : (Tryd.prog.info? 209).map (fun i => i.zero.map (fun v => v.cells)) = some (some (wCells (msgL [])).toArray) := by kernel_rfl
theorem Z8_info : (Tryd.prog.info? 202).map (fun i => i.zero.map (fun v => v.cells)) = some (some (wCells (List.replicate 8 0)).toArray) := by kernel_rfl
theorem size8 : (Tryd.prog.info? 202).map (·.size) = some (wCells rootsL).length := by kernel_rfl
theorem copy_8 (H : List Nat) (hH : H.length = 8) : (wCells (msgL [])).take 0 ++ wCells H ++ (wCells (msgL [])).drop (0 + (wCells H).length) = wCells (H ++ List.replicate 8 0) := by
  rw [wCells_length, hH, wCells_append]; rfl
theorem copy_16 (H : List Nat) (hH : H.length = 8) : (wCells (H ++ List.replicate 8 0)).take 8 ++ wCells rootsL ++ (wCells (H ++ List.replicate 8 0)).drop (8 + (wCells rootsL).length) = wCells (H ++ rootsL) := by
  have e : (wCells rootsL).length = 8 := rfl
  rw [e, List.drop_eq_nil_of_le (by rw [wCells_length, List.length_append, hH]; simp), wCells_append, List.take_append_of_le_length (by rw [wCells_length]; omega), List.take_of_length_le (by rw [wCells_length]; omega), wCells_append, List.append_nil]
theorem sCells_h {w : World} {p : Nat} {H : List Nat} {B : List UInt8} {n done : Nat} {T : TypeId} (h : Blk w p (sCells H B n done) T) : RowAt w p 0 (wCells H) := by
  have := RowAt.sub (xs := []) (ys := wCells H) (zs := Lib.byteCells B ++ [.int .i64 (n : Int), .int .u64 (done : Int)]) (by rw [List.nil_append, ← List.append_assoc]; exact h.row)
  exact this
theorem sCells_done {w : World} {p : Nat} {H : List Nat} {B : List UInt8} {n done : Nat} {T : TypeId} (h : Blk w p (sCells H B n done) T) (hl : H.length = 8) (hb : B.length = 64) : w.cell? ⟨p, 73, none⟩ = some (.int .u64 (done : Int)) := by
  have := h.row 73 (.int .u64 (done : Int)) (by
    unfold sCells
    rw [List.getElem?_append_right (by rw [List.length_append, wCells_length, Lib.byteCells_length, hl, hb]; omega), List.length_append, wCells_length, Lib.byteCells_length, hl, hb]; rfl)
  rwa [Nat.zero_add] at this
theorem sCells_word {w : World} {p : Nat} {H : List Nat} {B : List UInt8} {n done : Nat} {T : TypeId} (h : Blk w p (sCells H B n done) T) (hl : H.length = 8) (j : Nat) (hj : j < 8) : w.cell? ⟨p, j, none⟩ = some (.int .u32 (gV H j : Int)) := by
  have := (sCells_h h) j _ (wCells_get H j (by omega))
  rwa [Nat.zero_add] at this
theorem gV_mid (X H : List Nat) (j : Nat) (hx : j ≤ X.length) (hj : j < H.length) : gV (X.take j ++ H.drop j) j = gV H j := by
  unfold gV
  rw [List.getD_eq_getElem?_getD, List.getD_eq_getElem?_getD, List.getElem?_append_right (by rw [List.length_take]; omega), List.length_take, Nat.min_eq_left hx, Nat.sub_self, List.getElem?_drop, Nat.add_zero]
theorem sCells_length (H : List Nat) (B : List UInt8) (n done : Nat) : (sCells H B n done).length = H.length + B.length + 2 := by
  simp [sCells, wCells_length, Lib.byteCells_length]; omega
theorem sCells_set (H : List Nat) (B : List UInt8) (n done j x : Nat) (hj : j < H.length) : (sCells H B n done).set j (.int .u32 (x : Int)) = sCells (H.set j x) B n done := by
  unfold sCells
  rw [List.append_assoc, List.set_append_left _ _ (by rw [wCells_length]; exact hj), ← wCells_set, List.append_assoc]
theorem set_mid (X H : List Nat) (j : Nat) (hx : j < X.length) (hj : j < H.length) : (X.take j ++ H.drop j).set j (gV X j) = X.take (j + 1) ++ H.drop (j + 1) := by
  rw [List.set_append_right _ _ (by rw [List.length_take]; omega), List.length_take, Nat.min_eq_left (by omega), Nat.sub_self, List.drop_eq_getElem_cons hj, List.set_cons_zero, List.take_succ_eq_append_getElem hx, List.append_assoc]
  have : gV X j = X[j] := by unfold gV; rw [List.getD_eq_getElem?_getD, List.getElem?_eq_getElem hx]; rfl
  rw [this]; rfl
theorem sizeB64 (cs : List Value) (h : cs.length = 64) : (Tryd.prog.info? 203).map (·.size) = some cs.length := by rw [h]; kernel_rfl
theorem sCells_buf {w : World} {p : Nat} {H : List Nat} {B : List UInt8} {n done : Nat} {T : TypeId} (h : Blk w p (sCells H B n done) T) (hl : H.length = 8) : RowAt w p 8 (Lib.byteCells B) := by
  have := RowAt.sub (xs := wCells H) (ys := Lib.byteCells B) (zs := [.int .i64 (n : Int), .int .u64 (done : Int)]) h.row
  rwa [wCells_length, hl] at this

/-- the arm: at a copy into the middle of a block, out of a row -/
theorem wpList_copy_part {P : Program} {ops : Array Oper} {rest : List Oper} {o : Oper} {a : Act} {w : World} {Q : Exit → Act → World → Prop} (hgd : o.guard = none) (d s : Operand) (dT sT : TypeId)
    (ho : o.op = .call { callee := .builtin .copy, args := #[d, s], argTypes := #[dT, sT] }) (elem : TypeId) (hu : P.underlying dT = some (.slice elem)) (hsz : (P.info? elem).map (·.size) = some 1)
    (g k dLen dCap sb so sLen sCap : Nat) (hd : a.eval d = .slice (some ⟨g, k, none⟩) dLen dCap) (hs : a.eval s = .slice (some ⟨sb, so, none⟩) sLen sCap)
    (cur cs : List Value) (T : TypeId) (hb : Blk w g cur T) (hn : cs.length = Nat.min sLen dLen) (hr : RowAt w sb so cs) (hfit : k + cs.length ≤ cur.length) (h1 : ∀ v ∈ cs, v.oneCell' = true)
    (h : ∀ w2, w.grownBy w2 (some g) → w2.heap.size = w.heap.size → Blk w2 g (cur.take k ++ cs ++ cur.drop (k + cs.length)) T → wpList P ops Q rest (a.put o.dst (goInt cs.length)) w2) : wpList P ops Q (o :: rest) a w := by
  refine wpList_copy_own hgd d s dT sT ho elem hu hsz g k dLen dCap ⟨sb, so, none⟩ sLen sCap hd hs cur.toArray T hb cs hn (fun j v hv => ?_) (by simpa using hfit) h1 ?_
  · have hadd : (⟨sb, so, none⟩ : Addr).add j = ⟨sb, so + j, none⟩ := by unfold Addr.add; split <;> simp_all
    rw [hadd]; exact hr j v hv
  · refine h _ ⟨rfl, rfl, rfl, by simp, fun j _ hj => setRow_other w g j _ (by simpa using hj)⟩ (by simp) ?_
    have := setRow_heap w g cur.toArray (cur.take k ++ (cs ++ cur.drop (k + cs.length))).toArray T (0, 0) hb
    rw [← List.append_assoc] at this ⊢
    exact this
theorem run_index_byte (B : List UInt8) (hB : B.length = 64) (j : Nat) (hj : j < 64) (w : World) :
    (Instr.index 203 (.agg (Lib.byteCells B).toArray) (.int .i64 j)).run Tryd.prog w = .ok (.int .u8 ((B.getD j 0).toNat : Int)) w := by
  have hji : (j : Int) < 64 := by omega
  have hc : (Lib.byteCells B)[j]? = some (.int .u8 ((B.getD j 0).toNat : Int)) := by
    rw [byteCells_get B j (by omega)]; simp [List.getD, List.getElem?_eq_getElem (show j < B.length by omega)]
  have hs : (sizeOf 5).run Tryd.prog w = .ok 1 w := by kernel_rfl
  have hagg : (isAgg 5).run Tryd.prog w = .ok false w := by kernel_rfl
  have h0 : (0 : Int) ≤ (j : Int) ∧ (j : Int) < 64 := ⟨by omega, hji⟩
  unfold Instr.index
  simp [asIntOf, Sem.run_bind, run_underlying Tryd.underlying203, hs, Nat.not_le.2 hj, part, hagg, hc]
set_option maxHeartbeats 1600000 in
theorem block_ok (H : List Nat) (B : List UInt8) (n done p : Nat) (last : Bool) (w : World)
    (hS : Blk w p (sCells H B n done) 205) (hH : H.length = 8) (hw : Ws H) (hB : B.length = 64) (hd : done < 18446744073709551616)
    (hR : RowAt w 1 0 (wCells rootsL)) (hp : p ≠ 1) :
    Calls Tryd.prog 153 #[.pointer (some ⟨p, 0, none⟩), .bool last] w fun e w' =>
      e = .returned (.tuple #[]) ∧ Blk w' p (sCells (blockL H B done last) B n done) 205 ∧ w.grownBy w' (some p) := by
  have hmf : ∀ (fn : Fn) (first cap : Array Value) (w : World), (Instr.makeFunc fn first cap).run Tryd.prog w = .ok (.func fn first cap) w := fun _ _ _ _ => rfl
  have hg1 := World.block_lt_of_cell? w ⟨1, 0 + 0, none⟩ (hR 0 _ rfl)
  have HS := Lib.hid hS; have HR := Lib.hid hR
  clear hS hR
  go_enter Tryd.func153, Tryd.ntmps153
  go_wp2_with (refine wpList_alloc_as rfl 209 rfl (wCells (msgL [])) Z16_info ?_)
  intro w1 k1 k2 k3
  have S1 := Lib.hid (HS.out.grown k2 (by simp)); have R1 := Lib.hid (HR.out.grown k2 (by simp)); have M1 := Lib.hid k1; have G1 := Lib.hid k2; have Z1 := Lib.hid k3
  clear k1 k2 k3
  go_wp2_with (refine wpList_alloc_as rfl 209 rfl (wCells (msgL [])) Z16_info ?_)
  intro w2 k1 k2 k3
  have S2 := Lib.hid (S1.out.grown k2 (by simp)); have R2 := Lib.hid (R1.out.grown k2 (by simp)); have M2 := Lib.hid (M1.out.grown k2 (by simp)); have V2 := Lib.hid k1; have G2 := Lib.hid (Lib.grownBy_trans G1.out k2)
  have hlt := HS.out.lt
  have hz1 := Z1.out
  clear k1 k2 k3 HS S1 HR R1 M1 G1
  obtain ⟨mb, hmb⟩ : ∃ m, w.heap.size = m := ⟨_, rfl⟩
  obtain ⟨vb, hvb⟩ : ∃ m, w1.heap.size = m := ⟨_, rfl⟩
  rw [hmb] at M2 hlt hz1 hg1 ⊢
  rw [hvb] at V2 hz1 ⊢
  obtain rfl := hz1
  have Hmb := Lib.hid hmb
  clear hmb hvb Z1
  go_wp2_with (first | (refine wpList_load_part rfl 203 _ rfl p 8 rfl (Lib.byteCells B) _ (sCells_buf S2.out hH) Tryd.underlying203 rfl (sizeB64 _ (by rw [Lib.byteCells_length]; exact hB)) ?_))
  go_loopw [18] (fun i wr => ∃ j : Nat, j ≤ 64 ∧ i = .int .i64 j ∧ Blk wr mb (wCells (msgL (B.take j))) 209 ∧ w2.grownBy wr (some mb)) (fun i _ => 64 - (intOf i).toNat)
  case atStart => exact ⟨0, Nat.zero_le _, rfl, M2.out, ⟨rfl, rfl, rfl, Nat.le_refl _, fun _ _ _ => rfl⟩⟩
  case round =>
    obtain ⟨j, hj, rfl, hm, hg⟩ := hrel
    have Hm := Lib.hid hm; have Hg := Lib.hid hg; clear hg
    by_cases hlt2 : j < 64
    · have hji : (j : Int) < 64 := by omega
      have hix := run_index_byte B hB j hlt2
      obtain ⟨cj, hcj⟩ : ∃ c : Nat, (B.getD j 0).toNat = c := ⟨_, rfl⟩
      have hc8 : cj < 256 := hcj ▸ UInt8.toNat_lt _
      rw [hcj] at hix
      have Hcj := Lib.hid hcj; clear hcj
      obtain ⟨q, hq⟩ : ∃ q, j / 4 = q := ⟨_, rfl⟩
      have hq16 : q < 16 := by omega
      have hqi : (q : Int) < 16 := by omega
      have eq4 : IntKind.i64.wrap ((j : Int) / 4) = (q : Int) := by simp [IntKind.wrap, IntKind.bits, IntKind.signed]; omega
      obtain ⟨r, hr⟩ : ∃ r, j % 4 = r := ⟨_, rfl⟩
      have er : ((j : Int)).tmod 4 = (r : Int) := by rw [Int.tmod_eq_emod_of_nonneg (by omega)]; omega
      obtain ⟨sf, hsf⟩ : ∃ s, r * 8 = s := ⟨_, rfl⟩
      have hsf24 : sf ≤ 24 := by omega
      have hsf32 : (sf : Int) ≤ 32 := by omega
      have es : IntKind.i64.wrap ((r : Int) * 8) = (sf : Int) := by simp [IntKind.wrap, IntKind.bits, IntKind.signed]; omega
      obtain ⟨y, hy⟩ : ∃ y, cj * 2 ^ sf = y := ⟨_, rfl⟩
      have hy32 : y < 4294967296 := by
        have h1 : 2 ^ sf ≤ 2 ^ 24 := Nat.pow_le_pow_right (by omega) hsf24
        have h2 : cj * 2 ^ sf ≤ cj * 2 ^ 24 := Nat.mul_le_mul_left _ h1
        omega
      have ew : IntKind.u32.wrap (cj : Int) = (cj : Int) := by rw [IntKind.wrap_u32']; omega
      have esh : IntKind.u32.wrap ((cj : Int) * 2 ^ sf) = (y : Int) := by
        have e : ((cj : Int) * 2 ^ sf) = (y : Int) := by rw [← hy]; simp
        rw [e, IntKind.wrap_u32']; omega
      have eor := u32_or_nat (gV (msgL (B.take j)) q) y ((msgL_ws _).get _) hy32
      have cm := wCells_at hm q (by rw [msgL_len]; omega)
      have Hq := Lib.hid hq; have Hr := Lib.hid hr; have Hs := Lib.hid hsf; have Hy := Lib.hid hy
      clear hm hq hr hsf hy
      go_wp2_with fail
      go_still_tail 12, (by kernel_rfl)
      refine wpList_store_cell rfl 198 _ _ rfl mb q rfl (.int .u32 ((gV (msgL (B.take j)) q ||| y : Nat) : Int)) rfl rfl (wCells (msgL (B.take j))) 209 (show Blk wr.drew mb _ _ from Hm.out) (by rw [wCells_length, msgL_len]; omega) (by kernel_rfl) ?_
      intro w3 g3 s3 b3
      rw [← wCells_set, ← Hy.out, ← Hcj.out, ← Hs.out, ← Hr.out, ← Hq.out, ← msgL_step] at b3
      have b4 := Lib.hid b3; have g4 := Lib.hid (Lib.grownBy_trans Hg.out (undrew_grown g3)); clear b3 g3 s3
      go_wp2
      exact ⟨⟨j + 1, by omega, by go_num, b4.out, g4.out⟩, by simp [intOf]; omega⟩
    · obtain rfl : j = 64 := by omega
      have eB : B.take 64 = B := List.take_of_length_le (by omega)
      rw [eB] at hm
      have S3 := Lib.hid (S2.out.grown Hg.out (by simp; omega)); have R3 := Lib.hid (R2.out.grown Hg.out (by simp; omega)); have V3 := Lib.hid (V2.out.grown Hg.out (by simp)); have M3 := Lib.hid hm; have G3 := Lib.hid (grown_new G2.out Hg.out (by rw [Hmb.out]; exact Nat.le_refl _))
      have hlt3 : mb + 1 < wr.heap.size := V3.out.lt
      clear hm S2 R2 V2 M2 Hm Hg G2 hj eB
      go_wp2_with (first | (refine wpList_load_part rfl 202 _ rfl 1 0 rfl (wCells rootsL) _ R3.out Tryd.underlying202 rfl size8 ?_) | (refine wpList_alloc_as rfl 202 rfl (wCells (List.replicate 8 0)) Z8_info ?_))
      intro w3 k1 k2 k3
      have S4 := Lib.hid (S3.out.grown k2 (by simp)); have V4 := Lib.hid (V3.out.grown k2 (by simp)); have M4 := Lib.hid (M3.out.grown k2 (by simp)); have B4 := Lib.hid k1; have G4 := Lib.hid (Lib.grownBy_trans G3.out (grown_none k2))
      clear k1 k2 k3 S3 V3 M3 G3
      obtain ⟨bb, hbb⟩ : ∃ m, wr.heap.size = m := ⟨_, rfl⟩
      rw [hbb] at B4 hlt3 ⊢
      clear hbb
      go_wp2_with (first | (refine wpList_store_whole rfl 202 _ _ rfl bb rfl (wCells rootsL) (wCells (List.replicate 8 0)) 202 rfl B4.out rfl (wCells_one _) size8 ?_))
      intro w4 g4 s4 b4
      have S5 := Lib.hid (S4.out.grown g4 (by simp; omega)); have V5 := Lib.hid (V4.out.grown g4 (by simp; omega)); have M5 := Lib.hid (M4.out.grown g4 (by simp; omega)); have B5 := Lib.hid b4; have G5 := Lib.hid (grown_new G4.out g4 (by rw [Hmb.out]; omega))
      clear g4 s4 b4 S4 V4 M4 B4 G4
      go_wp2_with fail
      go_still_tail 5, (by kernel_rfl)
      refine wpList_copy_part rfl _ _ 197 197 rfl 198 Tryd.underlying197 (by kernel_rfl) (mb + 1) 0 16 16 p 0 8 8 rfl rfl (wCells (msgL [])) (wCells H) 209 (show Blk w4.drew _ _ _ from V5.out) (by rw [wCells_length, hH]; rfl) (show RowAt w4.drew _ _ _ from sCells_h S5.out) (by rw [wCells_length, wCells_length, hH, msgL_len]; omega) (wCells_one _) ?_
      intro w5 g5 s5 b5
      rw [copy_8 H hH] at b5
      have g5' := undrew_grown g5
      have S6 := Lib.hid (S5.out.grown g5' (by simp; omega)); have M6 := Lib.hid (M5.out.grown g5' (by simp)); have B6 := Lib.hid (B5.out.grown g5' (by simp; omega)); have V6 := Lib.hid b5; have G6 := Lib.hid (grown_new G5.out g5' (by rw [Hmb.out]; omega))
      clear g5 s5 b5 g5' S5 V5 M5 B5 G5
      go_wp2_with fail
      go_still_tail 2, (by kernel_rfl)
      refine wpList_copy_part rfl _ _ 197 197 rfl 198 Tryd.underlying197 (by kernel_rfl) (mb + 1) 8 8 8 bb 0 8 8 rfl rfl (wCells (H ++ List.replicate 8 0)) (wCells rootsL) 209 (show Blk w5.drew _ _ _ from V6.out) (by rfl) (show RowAt w5.drew _ _ _ from B6.out.row) (by rw [wCells_length, wCells_length, List.length_append, hH]; simp [rootsL]) (wCells_one _) ?_
      intro w6 g5 s5 b5
      rw [copy_16 H hH] at b5
      have g5' := undrew_grown g5
      have S7 := Lib.hid (S6.out.grown g5' (by simp; omega)); have M7 := Lib.hid (M6.out.grown g5' (by simp)); have V7 := Lib.hid b5; have G7 := Lib.hid (grown_new G6.out g5' (by rw [Hmb.out]; omega))
      clear g5 s5 b5 g5' S6 V6 M6 B6 G6
      obtain ⟨V0, hV0⟩ : ∃ V, H ++ rootsL = V := ⟨_, rfl⟩
      have l0 : V0.length = 16 := by rw [← hV0, List.length_append, hH]; rfl
      have x0 : Ws V0 := hV0 ▸ hw.append rootsL_ws
      rw [hV0] at V7
      have E0 := Lib.hid hV0; clear hV0
      have cd := sCells_done S7.out hH hB
      have c12 := wCells_at V7.out 12 (by omega)
      have hdm : done % 4294967296 < 4294967296 := Nat.mod_lt _ (by omega)
      have edw : IntKind.u32.wrap (done : Int) = ((done % 4294967296 : Nat) : Int) := by rw [IntKind.wrap_u32']; omega
      obtain ⟨dl, hdl⟩ : ∃ x, done % 4294967296 = x := ⟨_, rfl⟩
      rw [hdl] at edw hdm
      have ex := u32_xor_nat _ _ (x0.get 12) hdm
      have Hdl := Lib.hid hdl; clear hdl
      go_wp2_with fail
      go_still_tail 9, (by kernel_rfl)
      refine wpList_store_cell rfl 198 _ _ rfl (mb + 1) 12 rfl (.int .u32 ((gV V0 12 ^^^ dl : Nat) : Int)) rfl rfl (wCells V0) 209 (show Blk w6.drew _ _ _ from V7.out) (by rw [wCells_length]; omega) (by kernel_rfl) ?_
      intro w7 g5 s5 b5
      rw [← wCells_set, ← Hdl.out] at b5
      have g5' := undrew_grown g5
      have S8 := Lib.hid (S7.out.grown g5' (by simp; omega)); have M8 := Lib.hid (M7.out.grown g5' (by simp)); have V8 := Lib.hid b5; have G8 := Lib.hid (grown_new G7.out g5' (by rw [Hmb.out]; omega))
      clear g5 s5 b5 g5' S7 V7 M7 G7 cd c12 edw ex Hdl hdm
      obtain ⟨V1, hV1⟩ : ∃ V, V0.set 12 (gV V0 12 ^^^ done % 4294967296) = V := ⟨_, rfl⟩
      rw [hV1] at V8
      have l1 : V1.length = 16 := by rw [← hV1, List.length_set]; exact l0
      have x1 : Ws V1 := hV1 ▸ x0.set _ _ (xor_lt (x0.get _) (Nat.mod_lt _ (by omega)))
      have E1 := Lib.hid hV1; clear hV1
      have cd := sCells_done S8.out hH hB
      have c13 := wCells_at V8.out 13 (by omega)
      have hdm : done / 4294967296 < 4294967296 := Nat.div_lt_of_lt_mul (by omega)
      have edw : IntKind.u32.wrap ((done : Int) / 4294967296) = ((done / 4294967296 : Nat) : Int) := by rw [IntKind.wrap_u32']; omega
      obtain ⟨dh, hdh⟩ : ∃ x, done / 4294967296 = x := ⟨_, rfl⟩
      rw [hdh] at edw hdm
      have ex := u32_xor_nat _ _ (x1.get 13) hdm
      have Hdh := Lib.hid hdh; clear hdh
      go_wp2_with fail
      go_still_tail 10, (by kernel_rfl)
      refine wpList_store_cell rfl 198 _ _ rfl (mb + 1) 13 rfl (.int .u32 ((gV V1 13 ^^^ dh : Nat) : Int)) rfl rfl (wCells V1) 209 (show Blk w7.drew _ _ _ from V8.out) (by rw [wCells_length]; omega) (by kernel_rfl) ?_
      intro wb g5 s5 b5
      rw [← wCells_set, ← Hdh.out] at b5
      have g5' := undrew_grown g5
      have S9 := Lib.hid (S8.out.grown g5' (by simp; omega)); have M9 := Lib.hid (M8.out.grown g5' (by simp)); have V9 := Lib.hid b5; have G9 := Lib.hid (grown_new G8.out g5' (by rw [Hmb.out]; omega))
      clear g5 s5 b5 g5' S8 V8 M8 G8 cd c13 edw ex Hdh hdm
      obtain ⟨V2, hV2⟩ : ∃ V, V1.set 13 (gV V1 13 ^^^ done / 4294967296) = V := ⟨_, rfl⟩
      rw [hV2] at V9
      have l2 : V2.length = 16 := by rw [← hV2, List.length_set]; exact l1
      have x2 : Ws V2 := hV2 ▸ x1.set _ _ (xor_lt (x1.get _) (Nat.div_lt_of_lt_mul (by omega)))
      have E2 := Lib.hid hV2; clear hV2
      have c14 := wCells_at V9.out 14 (by omega)
      go_upto_if 64 with (fail)
      go_cut [1] from 14 to 68 (fun s1 wx => s1 = .bool last ∧ Blk wx (mb + 1) (wCells (beginL H done last)) 209 ∧ wb.grownBy wx (some (mb + 1)))
      case first =>
        cases last with
        | true =>
          have ex : bits .xor .u32 IntKind.u32.max (gV V2 14 : Int) = ((gV V2 14 ^^^ 4294967295 : Nat) : Int) := by
            rw [Nat.xor_comm]; exact u32_xor_nat 4294967295 (gV V2 14) (by omega) (x2.get 14)
          have V9' := V9.out
          have hns : IntKind.u32.signed = false := rfl
          have e : beginL H done true = V2.set 14 (gV V2 14 ^^^ 4294967295) := by unfold beginL; simp only [E0.out, E1.out, E2.out]; rfl
          have He := Lib.hid e; clear e
          go_wp2_with (first | (refine wpList_store_cell rfl 198 _ _ rfl (mb + 1) 14 rfl (.int .u32 ((gV V2 14 ^^^ 4294967295 : Nat) : Int)) (by first | rfl | exact congrArg (Value.int .u32) ex) rfl (wCells V2) 209 V9' (by rw [wCells_length]; omega) (by kernel_rfl) ?_))
          intro w9 g5 s5 b5
          rw [← wCells_set, ← He.out] at b5
          have VB := Lib.hid b5; have GB := Lib.hid g5
          clear g5 s5 b5 c14 ex He hns V9'
          go_wp2_with fail
          go_meet
          case rel => exact ⟨rfl, VB.out, GB.out⟩
        | false =>
          have e : beginL H done false = V2 := by unfold beginL; simp only [E0.out, E1.out, E2.out]; rfl
          have VB := Lib.hid (show Blk wb (mb + 1) (wCells (beginL H done false)) 209 by rw [e]; exact V9.out)
          clear c14 e
          go_wp2_with fail
          go_meet
          case rel => exact ⟨rfl, VB.out, ⟨rfl, rfl, rfl, Nat.le_refl _, fun _ _ _ => rfl⟩⟩
      case rest =>
        obtain ⟨rfl, hvb, hgb⟩ := hcut
        have VB := Lib.hid hvb; have SB := Lib.hid (S9.out.grown hgb (by simp; omega)); have MB := Lib.hid (M9.out.grown hgb (by simp)); have GB := Lib.hid (grown_new G9.out hgb (by rw [Hmb.out]; omega))
        clear hvb hgb S9 M9 V9 G9 c14
        generalize hlw : beginL H done last = Vb at VB
        have lb : Vb.length = 16 := by rw [← hlw]; exact beginL_len _ _ _ hH
        have xb : Ws Vb := by rw [← hlw]; exact beginL_ws hw _ hd _
        have Hlw := Lib.hid hlw; clear hlw
        go_wp2_with fail
        go_loopw [70] (fun i wr => ∃ r : Nat, r ≤ 10 ∧ i = .int .i64 r ∧ Blk wr (mb + 1) (wCells (stepsL (msgL B) Vb (8 * r))) 209 ∧ wc.grownBy wr (some (mb + 1))) (fun i _ => 10 - (intOf i).toNat)
        case atStart => exact ⟨0, Nat.zero_le _, rfl, VB.out, ⟨rfl, rfl, rfl, Nat.le_refl _, fun _ _ _ => rfl⟩⟩
        case round =>
          obtain ⟨r, hr, rfl, hv, hg⟩ := hrel
          have Hv := Lib.hid hv; have Hg := Lib.hid hg; clear hv hg
          by_cases hr10 : r < 10
          · have hr10i : (r : Int) < 10 := by omega
            go_wp2_with fail
            go_loopw [73] (fun i wi => ∃ j : Nat, j ≤ 4 ∧ i = .int .i64 j ∧ Blk wi (mb + 1) (wCells (stepsL (msgL B) Vb (8 * r + j))) 209 ∧ wc.grownBy wi (some (mb + 1))) (fun i _ => 4 - (intOf i).toNat)
            case atStart => exact ⟨0, Nat.zero_le _, rfl, Hv.out, Hg.out⟩
            case round =>
              obtain ⟨j, hj, rfl, hv2, hg2⟩ := hrel
              have Hv2 := Lib.hid hv2; have Hg2 := Lib.hid hg2; clear hv2 hg2
              by_cases hj4 : j < 4
              · have hj4i : (j : Int) < 4 := by omega
                go_wp2_with fail
                refine (g_col _ (msgL B) (mb + 1) mb r j wr Hv2.out (MB.out.grown Hg2.out (by simp)) (by rw [stepsL_len]; exact lb) (msgL_len _) (stepsL_ws xb _ _) (by omega) hr10 hj4).mono ?_
                rintro e w10 ⟨rfl, b10, g10⟩
                have B10 := Lib.hid b10; have G10 := Lib.hid (Lib.grownBy_trans Hg2.out g10); clear b10 g10
                go_wp2
                exact ⟨⟨j + 1, by omega, by go_num, B10.out, G10.out⟩, by simp [intOf]; omega⟩
              · have ej : j = 4 := by omega
                have eji : (j : Int) = 4 := by omega
                rw [ej] at Hv2
                rw [eji]
                clear eji ej hj4
                go_wp2_with fail
                go_loopw [91] (fun i wi => ∃ j : Nat, j ≤ 4 ∧ i = .int .i64 j ∧ Blk wi (mb + 1) (wCells (stepsL (msgL B) Vb (8 * r + 4 + j))) 209 ∧ wc.grownBy wi (some (mb + 1))) (fun i _ => 4 - (intOf i).toNat)
                case atStart => exact ⟨0, Nat.zero_le _, rfl, Hv2.out, Hg2.out⟩
                case round =>
                  obtain ⟨j, hj, rfl, hv3, hg3⟩ := hrel
                  have Hv3 := Lib.hid hv3; have Hg3 := Lib.hid hg3; clear hv3 hg3
                  by_cases hj4 : j < 4
                  · have hj4i : (j : Int) < 4 := by omega
                    obtain ⟨q1, h1⟩ : ∃ q, (j + 1) % 4 = q := ⟨_, rfl⟩
                    obtain ⟨q2, h2⟩ : ∃ q, (j + 2) % 4 = q := ⟨_, rfl⟩
                    obtain ⟨q3, h3⟩ : ∃ q, (j + 3) % 4 = q := ⟨_, rfl⟩
                    have e1 : ((j : Int) + 1).tmod 4 = (q1 : Int) := by rw [Int.tmod_eq_emod_of_nonneg (by omega)]; omega
                    have e2 : ((j : Int) + 2).tmod 4 = (q2 : Int) := by rw [Int.tmod_eq_emod_of_nonneg (by omega)]; omega
                    have e3 : ((j : Int) + 3).tmod 4 = (q3 : Int) := by rw [Int.tmod_eq_emod_of_nonneg (by omega)]; omega
                    have q14 : q1 < 4 := by omega
                    have q24 : q2 < 4 := by omega
                    have q34 : q3 < 4 := by omega
                    have Hq1 := Lib.hid h1; have Hq2 := Lib.hid h2; have Hq3 := Lib.hid h3; clear h1 h2 h3
                    go_wp2_with fail
                    refine (g_dia _ (msgL B) (mb + 1) mb r j q1 q2 q3 wr Hv3.out (MB.out.grown Hg3.out (by simp)) (by rw [stepsL_len]; exact lb) (msgL_len _) (stepsL_ws xb _ _) (by omega) hr10 hj4 Hq1.out Hq2.out Hq3.out).mono ?_
                    rintro e w10 ⟨rfl, b10, g10⟩
                    have B10 := Lib.hid b10; have G10 := Lib.hid (Lib.grownBy_trans Hg3.out g10); clear b10 g10
                    go_wp2
                    exact ⟨⟨j + 1, by omega, by go_num, B10.out, G10.out⟩, by simp [intOf]; omega⟩
                  · obtain rfl : j = 4 := by omega
                    go_wp2
                    exact ⟨⟨r + 1, by omega, by go_num, Hv3.out, Hg3.out⟩, by simp [intOf]; omega⟩
          · have er : r = 10 := by omega
            have eri : (r : Int) = 10 := by omega
            rw [er] at Hv
            rw [eri]
            clear er eri hr10
            have SC := Lib.hid (SB.out.grown Hg.out (by simp; omega)); have GC := Lib.hid (grown_new GB.out Hg.out (by rw [Hmb.out]; omega))
            go_wp2_with fail
            have lv : (stepsL (msgL B) Vb 80).length = 16 := by rw [stepsL_len]; exact lb
            have xv : Ws (stepsL (msgL B) Vb 80) := stepsL_ws xb _ _
            have hbk : ∀ i, i < 8 → gV (blockL H B done last) i = gV H i ^^^ (gV (stepsL (msgL B) Vb 80) i ^^^ gV (stepsL (msgL B) Vb 80) (i + 8)) := fun i hi => by
              rw [← Hlw.out]; exact blockL_get H B done last i hi
            have hbl := blockL_len H B done last
            obtain ⟨X, hX⟩ : ∃ X, blockL H B done last = X := ⟨_, rfl⟩
            obtain ⟨Y, hY⟩ : ∃ Y, stepsL (msgL B) Vb 80 = Y := ⟨_, rfl⟩
            rw [hX] at hbk hbl
            rw [hY] at hbk lv xv
            have HvY := Lib.hid (show Blk wr (mb + 1) (wCells Y) 209 by rw [← hY]; exact Hv.out)
            have Hbk := Lib.hid hbk; have HX := Lib.hid hX
            clear hX hY hbk Hv Hlw MB VB SB GB
            go_loopw [117] (fun i wi => ∃ j : Nat, j ≤ 8 ∧ i = .int .i64 j ∧ Blk wi p (sCells (X.take j ++ H.drop j) B n done) 205 ∧ wr.grownBy wi (some p)) (fun i _ => 8 - (intOf i).toNat)
            case atStart => exact ⟨0, Nat.zero_le _, rfl, SC.out, ⟨rfl, rfl, rfl, Nat.le_refl _, fun _ _ _ => rfl⟩⟩
            case round =>
              obtain ⟨j, hj, rfl, hs3, hg3⟩ := hrel
              have Hs3 := Lib.hid hs3; have Hg3 := Lib.hid hg3
              by_cases hj8 : j < 8
              · have hj8i : (j : Int) < 8 := by omega
                have hj16i : (j : Int) < 16 := by omega
                have hlen : (X.take j ++ H.drop j).length = 8 := by rw [List.length_append, List.length_take, List.length_drop]; omega
                have xj := xv.get j
                have xj8 := xv.get (j + 8)
                have ch := sCells_word Hs3.out hlen j hj8
                have c1 := wCells_at (HvY.out.grown Hg3.out (by simp; omega)) j (by omega)
                obtain ⟨j8, hj8e⟩ : ∃ x, j + 8 = x := ⟨_, rfl⟩
                have hj8p : (j8 : Int) < 16 := by omega
                have ej8 : (j : Int) + 8 = (j8 : Int) := by omega
                have ew8 : IntKind.i64.wrap (j8 : Int) = (j8 : Int) := by simp [IntKind.wrap, IntKind.bits, IntKind.signed]; omega
                have c2 := wCells_at (HvY.out.grown Hg3.out (by simp; omega)) j8 (by omega)
                have egx : gV (X.take j ++ H.drop j) j = gV H j := gV_mid X H j (by omega) (by omega)
                rw [egx] at ch
                have ex1 := u32_xor_nat _ _ (xv.get j) (xv.get j8)
                have ex2 := u32_xor_nat _ _ (hw.get j) (xor_lt (xv.get j) (xv.get j8))
                have Hj8 := Lib.hid hj8e
                clear hs3 hg3 hj8e xj xj8
                go_wp2_with fail
                go_still_tail 18, (by kernel_rfl)
                refine wpList_store_cell rfl 198 _ _ rfl p j rfl (.int .u32 ((gV H j ^^^ (gV Y j ^^^ gV Y j8) : Nat) : Int)) rfl rfl (sCells (X.take j ++ H.drop j) B n done) 205 (show Blk wr.drew _ _ _ from Hs3.out) (by rw [sCells_length, hlen]; omega) (by kernel_rfl) ?_
                intro w10 g5 s5 b5
                have eX : gV X j = gV H j ^^^ (gV Y j ^^^ gV Y j8) := by rw [Hbk.out j hj8, Hj8.out]
                rw [← eX, sCells_set _ _ _ _ j _ (by omega), set_mid X H j (by omega) (by omega)] at b5
                have B10 := Lib.hid b5; have G10 := Lib.hid (Lib.grownBy_trans Hg3.out (undrew_grown g5)); clear b5 g5 s5
                go_wp2
                exact ⟨⟨j + 1, by omega, by go_num, B10.out, G10.out⟩, by simp [intOf]; omega⟩
              · have ej : j = 8 := by omega
                rw [ej, List.take_of_length_le (by omega), List.drop_eq_nil_of_le (by omega), List.append_nil] at hs3
                go_wp2_with fail
                go_end0
                refine ⟨rfl, ?_, Lib.grownBy_trans (grown_none GC.out) hg3⟩
                rw [HX.out]; exact hs3

end Go.Proofs.YtaffpgafbjhahaaDoor
