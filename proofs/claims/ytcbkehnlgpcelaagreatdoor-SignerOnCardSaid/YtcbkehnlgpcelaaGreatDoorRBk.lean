/- Walks of the document's digest's small steps: a turn, an order, a root. Rows of words by append. Walks of the document's digest's small steps: a turn, an order, a root, a mixing. -/
import Derived.Test.YtcbkehnlgpcelaaGreatDoorProg
import Derived.Test.YtcbkehnlgpcelaaGreatDoorBk
import Derived.Test.YtcbkehnlgpcelaaGreatDoorBuild
import Derived.StillTailTactics
import Derived.Lib.Hide
import Derived.Deep.Cut
import Derived.Deep.CutRange
import Derived.Test.YtcbkehnlgpcelaaGreatDoorApp
import Derived.Test.YtcbkehnlgpcelaaGreatDoorBkW
namespace Go.Proofs.YtcbkehnlgpcelaaGreatDoor
open Go.RowKit
set_option maxRecDepth 100000

theorem ord_of2 (L : List UInt8) (hL : L.map UInt8.toNat = ordersL) (k : Nat) (h : k < (⟨L.toArray⟩ : ByteArray).size) : ((⟨L.toArray⟩ : ByteArray)[k]'h).toNat = ordC k := by
  have hlt : k < L.length := by simpa [ByteArray.size] using h
  show ((L.toArray)[k]'(by simpa using hlt)).toNat = _
  unfold ordC
  rw [← hL, List.getD_eq_getElem?_getD, List.getElem?_map, List.getElem?_eq_getElem hlt]
  simp
set_option maxHeartbeats 800000 in
theorem order_ok (r i : Nat) (w : World) (hr : r < 10) (hi : i < 16) :
    Calls Tryz.prog 151 #[.int .i64 r, .int .i64 i] w fun e w' => e = .returned (.int .i64 (sg (16 * r + i) : Int)) ∧ w' = w := by
  obtain ⟨k, hk⟩ : ∃ k, 16 * r + i = k := ⟨_, rfl⟩
  have hk1 : 16 * (r : Int) + (i : Int) = (k : Int) := by omega
  have hw1 : IntKind.i64.wrap (16 * (r : Int)) = 16 * (r : Int) := by simp [IntKind.wrap, IntKind.bits, IntKind.signed]; omega
  have hkw : IntKind.i64.wrap (k : Int) = (k : Int) := by simp [IntKind.wrap, IntKind.bits, IntKind.signed]; omega
  have hk2 : (k : Int) < 160 := by omega
  rw [hk]
  clear hk hr hi
  go_enter Tryz.func151, Tryz.ntmps151
  go_upto_region 3 with (fail)
  rw [ord_of2 [48, 49, 50, 51, 52, 53, 54, 55, 56, 57, 97, 98, 99, 100, 101, 102, 101, 97, 52, 56, 57, 102, 100, 54, 49, 99, 48, 50, 98, 55, 53, 51, 98, 56, 99, 48, 53, 50, 102, 100, 97, 101, 51, 54, 55, 49, 57, 52, 55, 57, 51, 49, 100, 99, 98, 101, 50, 54, 53, 97, 52, 48, 102, 56, 57, 48, 53, 55, 50, 52, 97, 102, 101, 49, 98, 99, 54, 56, 51, 100, 50, 99, 54, 97, 48, 98, 56, 51, 52, 100, 55, 53, 102, 101, 49, 57, 99, 53, 49, 102, 101, 100, 52, 97, 48, 55, 54, 51, 57, 50, 56, 98, 100, 98, 55, 101, 99, 49, 51, 57, 53, 48, 102, 52, 56, 54, 50, 97, 54, 102, 101, 57, 98, 51, 48, 56, 99, 50, 100, 55, 49, 52, 97, 53, 97, 50, 56, 52, 55, 54, 49, 53, 102, 98, 57, 101, 51, 99, 100, 48] (by kernel_rfl) k (by show k < 160; omega)]
  have ho := ordC_ok k
  have hg : sg k = figN (ordC k) := rfl
  obtain ⟨c, hc⟩ : ∃ c, ordC k = c := ⟨_, rfl⟩
  rw [hc] at ho hg ⊢
  simp [figOk] at ho
  have Hg := Lib.hid hg
  clear hc hg hkw hw1 hk1
  have hc2 : c < 256 := by omega
  by_cases h97 : 97 ≤ c
  · go_wp2
    go_ret
    refine ⟨?_, rfl⟩
    rw [Hg.out]; unfold figN; rw [if_pos h97]
    simp; omega
  · go_wp2
    go_ret
    refine ⟨?_, rfl⟩
    rw [Hg.out]; unfold figN; rw [if_neg h97]
    simp; omega

def rootVs : List Value := wCells rootsL
theorem u32_zs : (Tryz.prog.info? 177).map (fun i => (i.zero, i.size)) = some (some (.int .u32 0), 1) := by kernel_rfl
set_option maxHeartbeats 800000 in
theorem root_ok (i : Nat) (w : World) (hi : i < 8) :
    Calls Tryz.prog 123 #[.int .i64 i] w fun e w' => e = .returned (.int .u32 (gV rootsL i : Int)) ∧ w.grownBy w' none := by
  have hii : (i : Int) < 8 := by omega
  go_enter Tryz.func123, Tryz.ntmps123
  go_wp2_with (refine wpList_buildSlice_all rfl 176 8 _ rfl rootVs (by kernel_rfl) (by kernel_rfl) rootVs (by kernel_rfl) 177 _ 1 Tryz.underlying176 u32_zs (by intro v hv; obtain ⟨n, _, rfl⟩ := List.mem_map.1 hv; rfl) (by decide) ?_)
  intro w2 b2 g2 s2
  have c := b2.row i (.int .u32 (gV rootsL i : Int)) (wCells_get rootsL i hi)
  rw [Nat.zero_add] at c
  have G := Lib.hid g2
  clear b2 g2 s2
  go_wp2
  go_ret
  exact ⟨rfl, G.out⟩

theorem u32_info : (Tryz.prog.info? 177).map (fun i => (i.zero, i.size, i.bytes)) = some (some (.int .u32 0), 1, 4) := by kernel_rfl
/-- a row of words of the call's own -/
def OwnW (B : Nat) (v : Value) (V : List Nat) (w : World) : Prop := w.ownsRow B 177 1 v V.length (wCells V)
theorem OwnW.nil (B : Nat) (w : World) : OwnW B (.slice none 0 0) [] w := World.ownsRow_nil w B _ 1
theorem OwnW.shape {B : Nat} {v : Value} {V : List Nat} {w : World} (h : OwnW B v V w) : ∃ a c, v = .slice a V.length c := by
  rcases h.2 with ⟨rfl, hn⟩ | ⟨g, cap, cur, rfl, _⟩
  · exact ⟨none, 0, by rw [hn]⟩
  · exact ⟨_, _, rfl⟩
theorem OwnW.blk {B : Nat} {v : Value} {V : List Nat} {w : World} (h : OwnW B v V w) (hV : 0 < V.length) :
    ∃ g cap R, v = .slice (some ⟨g, 0, none⟩) V.length cap ∧ B ≤ g ∧ Blk w g (wCells V ++ R) 177 ∧ cap = V.length + R.length ∧ cap ≤ maxLen := by
  rcases h.2 with ⟨_, hn⟩ | ⟨g, cap, cur, rfl, hbg, hg, hnc, hcm, hcs, htake⟩
  · omega
  · rw [Nat.mul_one] at htake hcs
    refine ⟨g, cap, cur.toList.drop V.length, rfl, hbg, ?_, ?_, hcm⟩
    · rw [← htake, List.take_append_drop]
      show w.heap[g]? = _
      rw [hg]
    · simp; omega
theorem OwnW.of_blk {B g cap : Nat} {V : List Nat} {R : List Value} {w : World} (hB : B ≤ g) (hb : Blk w g (wCells V ++ R) 177) (hc : cap = V.length + R.length) (hm : cap ≤ maxLen) :
    OwnW B (.slice (some ⟨g, 0, none⟩) V.length cap) V w := by
  refine ⟨by rw [wCells_length, Nat.mul_one], Or.inr ⟨g, cap, _, rfl, hB, hb, by omega, hm, ?_, ?_⟩⟩
  · simp [wCells_length]; omega
  · show ((wCells V ++ R).take (V.length * 1)) = wCells V
    rw [Nat.mul_one, List.take_left' (wCells_length V)]
theorem OwnW.mono {B B' : Nat} {v : Value} {V : List Nat} {w : World} (h : OwnW B v V w) (hB : B' ≤ B) : OwnW B' v V w := by
  refine ⟨h.1, ?_⟩
  rcases h.2 with h | ⟨g, cap, cur, e, hbg, r⟩
  · exact Or.inl h
  · exact Or.inr ⟨g, cap, cur, e, by omega, r⟩
theorem OwnW.keptO {B : Nat} {v : Value} {V : List Nat} {w w' : World} {row : Option Nat} (h : OwnW B v V w) (hg : w.grownBy w' row) (hr : ∀ p, row = some p → p < B := by simp) : OwnW B v V w' := by
  refine World.ownsRow.kept h hg ?_
  rcases h.2 with ⟨rfl, hn⟩ | ⟨g, cap, cur, rfl, hbg, _⟩
  · exact Or.inl rfl
  · refine Or.inr ?_
    intro e
    have e2 : some g = row := e
    have := hr g e2.symm
    omega

/-- .. append(v, x), of one word -/
theorem wpList_appw_one {ops : Array Oper} {rest : List Oper} {o : Oper} {a : Act} {w : World} {Q : Exit → Act → World → Prop} (hgd : Region.wanted o (yielded ops a.tmps) = true) (s x : Operand)
    (ho : o.op = .call { callee := .builtin .append, args := #[s, x], argTypes := #[176, 176] }) {B : Nat} {v : Value} {V : List Nat} (hs : a.eval s = v) (hown : OwnW B v V w) (n : Nat) {u : Int}
    (hx : a.eval x = .slice (some ⟨w.heap.size, 0, none⟩) 1 1) (hc : u = (n : Int)) (hlen : V.length ≤ 1000000) (hB : B ≤ w.heap.size)
    (h : ∀ v' w', OwnW B v' (V ++ [n]) w' → Below B w w' → wpList Tryz.prog ops Q rest (a.put o.dst v') w') : wpList Tryz.prog ops Q (o :: rest) a (w.alloc (.cells #[.int .u32 u] 177)) := by
  subst hc
  refine wpList_app_new w hgd s x 176 ho B 177 (.int .u32 0) 1 4 Tryz.underlying176 u32_info rfl v V.length (wCells V) hs hown hx [.int .u32 (n : Int)] rfl (by intro u hu; rw [List.mem_singleton.1 hu]; rfl) hlen (by decide) hB ?_
  intro v' w' h1 h2 _
  refine h v' w' ?_ h2
  unfold OwnW
  rw [List.length_append, wCells_append]
  exact h1
theorem step_appw_one {ops : Array Oper} {o : Oper} {a : Act} {w : World} {K : Act → World → Prop} {Q : Exit → Act → World → Prop} {E : Prop} (hgd : o.guard = none) (s x : Operand)
    (ho : o.op = .call { callee := .builtin .append, args := #[s, x], argTypes := #[176, 176] }) {B : Nat} {v : Value} {V : List Nat} (hs : a.eval s = v) (hown : OwnW B v V w) (n : Nat) {u : Int}
    (hx : a.eval x = .slice (some ⟨w.heap.size, 0, none⟩) 1 1) (hc : u = (n : Int)) (hlen : V.length ≤ 1000000) (hB : B ≤ w.heap.size)
    (h : ∀ v' w', OwnW B v' (V ++ [n]) w' → Below B w w' → K (a.put o.dst v') w') : if Region.wanted o (yielded ops a.tmps) = true then Oper.wp Tryz.prog o a (w.alloc (.cells #[.int .u32 u] 177)) K Q else E := by
  subst hc
  refine step_wanted hgd (wp_app_new w s x 176 ho B 177 (.int .u32 0) 1 4 Tryz.underlying176 u32_info rfl v V.length (wCells V) hs hown hx [.int .u32 (n : Int)] rfl (by intro u hu; rw [List.mem_singleton.1 hu]; rfl) hlen (by decide) hB ?_)
  intro v' w' h1 h2 _
  refine h v' w' ?_ h2
  unfold OwnW
  rw [List.length_append, wCells_append]
  exact h1
theorem srcW {w : World} {g o n c : Nat} {V : List Nat} (hn : n = V.length) (hr : RowAt w g o (wCells V)) : Src Tryz.prog 1 176 (.slice (some ⟨g, o, none⟩) n c) V.length (wCells V) w := by
  subst hn
  refine Src.ofSlice _ Tryz.underlying176 _ _ _ _ (by rw [wCells_length, Nat.mul_one]) (fun j u hj => ?_) (wCells_one V)
  have e : (⟨g, o, none⟩ : Addr).add j = ⟨g, o + j, none⟩ := by unfold Addr.add; split <;> simp_all
  rw [e]; exact hr j u hj
/-- append(v, u...), of words -/
theorem wpList_appw {ops : Array Oper} {rest : List Oper} {o : Oper} {a : Act} {w : World} {Q : Exit → Act → World → Prop} (hgd : Region.wanted o (yielded ops a.tmps) = true) (s x : Operand)
    (ho : o.op = .call { callee := .builtin .append, args := #[s, x], argTypes := #[176, 176] }) {B : Nat} {v : Value} {V U : List Nat} (hs : a.eval s = v) (hown : OwnW B v V w)
    (xv : Value) (hx : a.eval x = xv) (hsrc : Src Tryz.prog 1 176 xv U.length (wCells U) w) (hlen : V.length + U.length ≤ 1000000) (hB : B ≤ w.heap.size)
    (h : ∀ v' w', OwnW B v' (V ++ U) w' → Below B w w' → wpList Tryz.prog ops Q rest (a.put o.dst v') w') : wpList Tryz.prog ops Q (o :: rest) a w := by
  refine wpList_wanted hgd fun _ hK => ?_
  refine wp_append_srcs w s x 176 176 ho B 177 (.int .u32 0) 1 4 Tryz.underlying176 u32_info rfl v V.length (wCells V) hs hown xv U.length _ hx hsrc (by unfold maxLen; omega) (by omega) hB ?_
  intro v' w' h1 _ h2 _
  refine hK _ _ (h v' w' ?_ h2)
  unfold OwnW
  rw [List.length_append, wCells_append]
  exact h1

/-- the step, among quiet ones: a load of a struct or an array -/
theorem wpStill_load_part {P : Program} {ops : Array Oper} {rest : List Oper} {o : Oper} {a : Act} {w : World} {Q : Act → Prop} (hgd : Region.wanted o (yielded ops a.tmps) = true) (ty : TypeId) (x : Operand) (ho : o.op = .load ty x)
    (g k : Nat) (hx : a.eval x = .pointer (some ⟨g, k, none⟩)) (vs : List Value) (d : TypeDesc) (hr : RowAt w g k vs)
    (hu : P.underlying ty = some d) (hd : (match d with | .struct _ | .array _ _ => true | _ => false) = true) (hi : (P.info? ty).map (·.size) = some vs.length)
    (h : wpStill P ops w Q rest (a.put o.dst (.agg vs.toArray))) : wpStill P ops w Q (o :: rest) a := by
  refine wpStill_step fun K hK => ?_
  rw [if_pos hgd]
  unfold Oper.still execOp
  simp only [ho, hx, Instr.loadAt, Instr.sureAddr, Sem.run_bind, Sem.run_pure, Result.andThen_ok, run_loadVar_part w g k ty vs d hr hu hd hi, Oper.stillUpon_value]
  exact hK _ h

theorem rgt_16 (x : Nat) (h : x < 4294967296) : bits .or .u32 ((x : Int) / 65536) ((x : Int) * 65536 % 4294967296) = (ror x 16 : Int) := by
  have e : ror x 16 = (x / 65536 ||| x * 65536 % 4294967296) := by rw [Nat.or_comm]; rfl
  have := u32_or_nat (x / 65536) (x * 65536 % 4294967296) (by omega) (Nat.mod_lt _ (by omega))
  rw [e, ← this]
  rfl
set_option maxHeartbeats 400000 in
theorem right_16 (x : Nat) (w : World) (h : x < 4294967296) :
    Calls Tryz.prog 159 #[.int .u32 (x : Int), .int .i64 16] w fun e w' => e = .returned (.int .u32 (ror x 16 : Int)) ∧ w' = w := by
  go_enter Tryz.func159, Tryz.ntmps159
  go_wp2
  rw [rgt_16 x h]
  go_ret
  exact ⟨rfl, rfl⟩
theorem rgt_12 (x : Nat) (h : x < 4294967296) : bits .or .u32 ((x : Int) / 4096) ((x : Int) * 1048576 % 4294967296) = (ror x 12 : Int) := by
  have e : ror x 12 = (x / 4096 ||| x * 1048576 % 4294967296) := by rw [Nat.or_comm]; rfl
  have := u32_or_nat (x / 4096) (x * 1048576 % 4294967296) (by omega) (Nat.mod_lt _ (by omega))
  rw [e, ← this]
  rfl
set_option maxHeartbeats 400000 in
theorem right_12 (x : Nat) (w : World) (h : x < 4294967296) :
    Calls Tryz.prog 159 #[.int .u32 (x : Int), .int .i64 12] w fun e w' => e = .returned (.int .u32 (ror x 12 : Int)) ∧ w' = w := by
  go_enter Tryz.func159, Tryz.ntmps159
  go_wp2
  rw [rgt_12 x h]
  go_ret
  exact ⟨rfl, rfl⟩
theorem rgt_8 (x : Nat) (h : x < 4294967296) : bits .or .u32 ((x : Int) / 256) ((x : Int) * 16777216 % 4294967296) = (ror x 8 : Int) := by
  have e : ror x 8 = (x / 256 ||| x * 16777216 % 4294967296) := by rw [Nat.or_comm]; rfl
  have := u32_or_nat (x / 256) (x * 16777216 % 4294967296) (by omega) (Nat.mod_lt _ (by omega))
  rw [e, ← this]
  rfl
set_option maxHeartbeats 400000 in
theorem right_8 (x : Nat) (w : World) (h : x < 4294967296) :
    Calls Tryz.prog 159 #[.int .u32 (x : Int), .int .i64 8] w fun e w' => e = .returned (.int .u32 (ror x 8 : Int)) ∧ w' = w := by
  go_enter Tryz.func159, Tryz.ntmps159
  go_wp2
  rw [rgt_8 x h]
  go_ret
  exact ⟨rfl, rfl⟩
theorem rgt_7 (x : Nat) (h : x < 4294967296) : bits .or .u32 ((x : Int) / 128) ((x : Int) * 33554432 % 4294967296) = (ror x 7 : Int) := by
  have e : ror x 7 = (x / 128 ||| x * 33554432 % 4294967296) := by rw [Nat.or_comm]; rfl
  have := u32_or_nat (x / 128) (x * 33554432 % 4294967296) (by omega) (Nat.mod_lt _ (by omega))
  rw [e, ← this]
  rfl
set_option maxHeartbeats 400000 in
theorem right_7 (x : Nat) (w : World) (h : x < 4294967296) :
    Calls Tryz.prog 159 #[.int .u32 (x : Int), .int .i64 7] w fun e w' => e = .returned (.int .u32 (ror x 7 : Int)) ∧ w' = w := by
  go_enter Tryz.func159, Tryz.ntmps159
  go_wp2
  rw [rgt_7 x h]
  go_ret
  exact ⟨rfl, rfl⟩

theorem wR_at {w : World} {g : Nat} {V : List Nat} {R : List Value} {T : TypeId} (h : Blk w g (wCells V ++ R) T) (i : Nat) (hi : i < V.length) : w.cell? ⟨g, i, none⟩ = some (.int .u32 (gV V i : Int)) := by
  have := h.row i (.int .u32 (gV V i : Int)) (by rw [List.getElem?_append_left (by rw [wCells_length]; exact hi)]; exact wCells_get V i hi)
  rwa [Nat.zero_add] at this
theorem wR_set (V : List Nat) (R : List Value) (i n : Nat) (hi : i < V.length) : (wCells V ++ R).set i (.int .u32 (n : Int)) = wCells (V.set i n) ++ R := by
  rw [List.set_append_left _ _ (by rw [wCells_length]; exact hi), ← wCells_set]
theorem wR_len (V : List Nat) (R : List Value) (i : Nat) (hi : i < V.length) : i < (wCells V ++ R).length := by rw [List.length_append, wCells_length]; omega
theorem wrap_add4 (p q r : Nat) : IntKind.u32.wrap (IntKind.u32.wrap ((p : Int) + (q : Int)) + (r : Int)) = (((p + (q + r)) % 4294967296 : Nat) : Int) := by
  rw [IntKind.wrap_u32', IntKind.wrap_u32']; omega

set_option maxHeartbeats 1600000 in
theorem mix_ok (V : List Nat) (R : List Value) (T : TypeId) (vb cap a b c d x y : Nat) (w : World)
    (hV : Blk w vb (wCells V ++ R) T) (hvl : V.length = 16) (hvw : Ws V) (la : a < 16) (lb : b < 16) (lc : c < 16) (ld : d < 16) :
    Calls Tryz.prog 150 #[.slice (some ⟨vb, 0, none⟩) 16 cap, .agg #[.int .i64 a, .int .i64 b, .int .i64 c, .int .i64 d], .int .u32 x, .int .u32 y] w fun e w' =>
      e = .returned (.tuple #[]) ∧ Blk w' vb (wCells (mixL V a b c d x y) ++ R) T ∧ w.grownBy w' (some vb) := by
  have ja : (a : Int) < 16 := by omega
  have jb : (b : Int) < 16 := by omega
  have jc : (c : Int) < 16 := by omega
  have jd : (d : Int) < 16 := by omega
  have HV := Lib.hid hV
  have hlt := hV.lt
  clear hV
  go_enter Tryz.func150, Tryz.ntmps150
  go_wp2_with (refine wpList_box_as rfl 195 _ rfl [.int .i64 a, .int .i64 b, .int .i64 c, .int .i64 d] rfl ?_)
  intro w0 b0 g0 s0
  have c0 := b0.row 0 _ rfl
  have c1 := b0.row 1 _ rfl
  have c2 := b0.row 2 _ rfl
  have c3 := b0.row 3 _ rfl
  simp only [Nat.zero_add] at c0 c1 c2 c3
  have HV0 := Lib.hid (HV.out.grown g0 (by simp)); have G0 := Lib.hid (grown_none (row := some vb) g0)
  have l0 : V.length = 16 := hvl
  have x0 : Ws V := hvw
  clear b0 g0 s0 HV
  have va := wR_at HV0.out a (by omega)
  have vs := wR_at HV0.out b (by omega)
  go_wp2_with fail
  clear c0 c1 c2 c3
  go_still_tail 14, (by kernel_rfl)
  refine wpList_store_cell rfl 177 _ _ rfl vb a rfl (.int .u32 (((gV V a + (gV V b + x)) % 4294967296 : Nat) : Int)) (congrArg (Value.int .u32) (wrap_add4 _ _ _)) rfl (wCells V ++ R) T (show Blk w0.drew vb _ _ from HV0.out) (wR_len _ _ _ (by omega)) (by kernel_rfl) ?_
  intro w1 g2 s2 b2
  rw [wR_set _ _ _ _ (by omega)] at b2
  have b3 : Blk w1 vb (wCells (half1 V a b x) ++ R) T := b2
  have G1 := Lib.hid (Lib.grownBy_trans G0.out (undrew_grown g2))
  clear b2 g2 s2 va vs HV0 G0
  obtain ⟨V1, hVn⟩ : ∃ Vn, half1 V a b x = Vn := ⟨_, rfl⟩
  rw [hVn] at b3
  have l1 : V1.length = 16 := by rw [← hVn, half1_len]; exact l0
  have x1 : Ws V1 := hVn ▸ half1_ws x0 _ _ _
  have E1 := Lib.hid hVn; clear hVn
  have HV1 := Lib.hid b3; clear b3
  have va := wR_at HV1.out d (by omega)
  have vs := wR_at HV1.out a (by omega)
  have ex := u32_xor_nat _ _ (x1.get d) (x1.get a)
  go_wp2_with fail
  go_still_tail 13, (by kernel_rfl)
  still_call (right_16 _ _ (xor_lt (x1.get d) (x1.get a)))
  repeat still_step
  refine wpStill_nil ?_
  refine wpList_store_cell rfl 177 _ _ rfl vb d rfl (.int .u32 (ror (gV V1 d ^^^ gV V1 a) 16 : Int)) rfl rfl (wCells V1 ++ R) T (show Blk w1.drew vb _ _ from HV1.out) (wR_len _ _ _ (by omega)) (by kernel_rfl) ?_
  intro w2 g2 s2 b2
  rw [wR_set _ _ _ _ (by omega)] at b2
  have b3 : Blk w2 vb (wCells (half2 V1 a d 16) ++ R) T := b2
  have G2 := Lib.hid (Lib.grownBy_trans G1.out (undrew_grown g2))
  clear b2 g2 s2 va vs ex HV1 G1
  obtain ⟨V2, hVn⟩ : ∃ Vn, half2 V1 a d 16 = Vn := ⟨_, rfl⟩
  rw [hVn] at b3
  have l2 : V2.length = 16 := by rw [← hVn, half2_len]; exact l1
  have x2 : Ws V2 := hVn ▸ half2_ws x1 _ _ _
  have E2 := Lib.hid hVn; clear hVn
  have HV2 := Lib.hid b3; clear b3
  have va := wR_at HV2.out c (by omega)
  have vs := wR_at HV2.out d (by omega)
  go_wp2_with fail
  go_still_tail 12, (by kernel_rfl)
  refine wpList_store_cell rfl 177 _ _ rfl vb c rfl (.int .u32 (((gV V2 c + (gV V2 d + 0)) % 4294967296 : Nat) : Int)) (congrArg (Value.int .u32) (wrap_add2 _ _)) rfl (wCells V2 ++ R) T (show Blk w2.drew vb _ _ from HV2.out) (wR_len _ _ _ (by omega)) (by kernel_rfl) ?_
  intro w3 g2 s2 b2
  rw [wR_set _ _ _ _ (by omega)] at b2
  have b3 : Blk w3 vb (wCells (half1 V2 c d 0) ++ R) T := b2
  have G3 := Lib.hid (Lib.grownBy_trans G2.out (undrew_grown g2))
  clear b2 g2 s2 va vs HV2 G2
  obtain ⟨V3, hVn⟩ : ∃ Vn, half1 V2 c d 0 = Vn := ⟨_, rfl⟩
  rw [hVn] at b3
  have l3 : V3.length = 16 := by rw [← hVn, half1_len]; exact l2
  have x3 : Ws V3 := hVn ▸ half1_ws x2 _ _ _
  have E3 := Lib.hid hVn; clear hVn
  have HV3 := Lib.hid b3; clear b3
  have va := wR_at HV3.out b (by omega)
  have vs := wR_at HV3.out c (by omega)
  have ex := u32_xor_nat _ _ (x3.get b) (x3.get c)
  go_wp2_with fail
  go_still_tail 13, (by kernel_rfl)
  still_call (right_12 _ _ (xor_lt (x3.get b) (x3.get c)))
  repeat still_step
  refine wpStill_nil ?_
  refine wpList_store_cell rfl 177 _ _ rfl vb b rfl (.int .u32 (ror (gV V3 b ^^^ gV V3 c) 12 : Int)) rfl rfl (wCells V3 ++ R) T (show Blk w3.drew vb _ _ from HV3.out) (wR_len _ _ _ (by omega)) (by kernel_rfl) ?_
  intro w4 g2 s2 b2
  rw [wR_set _ _ _ _ (by omega)] at b2
  have b3 : Blk w4 vb (wCells (half2 V3 c b 12) ++ R) T := b2
  have G4 := Lib.hid (Lib.grownBy_trans G3.out (undrew_grown g2))
  clear b2 g2 s2 va vs ex HV3 G3
  obtain ⟨V4, hVn⟩ : ∃ Vn, half2 V3 c b 12 = Vn := ⟨_, rfl⟩
  rw [hVn] at b3
  have l4 : V4.length = 16 := by rw [← hVn, half2_len]; exact l3
  have x4 : Ws V4 := hVn ▸ half2_ws x3 _ _ _
  have E4 := Lib.hid hVn; clear hVn
  have HV4 := Lib.hid b3; clear b3
  have va := wR_at HV4.out a (by omega)
  have vs := wR_at HV4.out b (by omega)
  go_wp2_with fail
  go_still_tail 14, (by kernel_rfl)
  refine wpList_store_cell rfl 177 _ _ rfl vb a rfl (.int .u32 (((gV V4 a + (gV V4 b + y)) % 4294967296 : Nat) : Int)) (congrArg (Value.int .u32) (wrap_add4 _ _ _)) rfl (wCells V4 ++ R) T (show Blk w4.drew vb _ _ from HV4.out) (wR_len _ _ _ (by omega)) (by kernel_rfl) ?_
  intro w5 g2 s2 b2
  rw [wR_set _ _ _ _ (by omega)] at b2
  have b3 : Blk w5 vb (wCells (half1 V4 a b y) ++ R) T := b2
  have G5 := Lib.hid (Lib.grownBy_trans G4.out (undrew_grown g2))
  clear b2 g2 s2 va vs HV4 G4
  obtain ⟨V5, hVn⟩ : ∃ Vn, half1 V4 a b y = Vn := ⟨_, rfl⟩
  rw [hVn] at b3
  have l5 : V5.length = 16 := by rw [← hVn, half1_len]; exact l4
  have x5 : Ws V5 := hVn ▸ half1_ws x4 _ _ _
  have E5 := Lib.hid hVn; clear hVn
  have HV5 := Lib.hid b3; clear b3
  have va := wR_at HV5.out d (by omega)
  have vs := wR_at HV5.out a (by omega)
  have ex := u32_xor_nat _ _ (x5.get d) (x5.get a)
  go_wp2_with fail
  go_still_tail 13, (by kernel_rfl)
  still_call (right_8 _ _ (xor_lt (x5.get d) (x5.get a)))
  repeat still_step
  refine wpStill_nil ?_
  refine wpList_store_cell rfl 177 _ _ rfl vb d rfl (.int .u32 (ror (gV V5 d ^^^ gV V5 a) 8 : Int)) rfl rfl (wCells V5 ++ R) T (show Blk w5.drew vb _ _ from HV5.out) (wR_len _ _ _ (by omega)) (by kernel_rfl) ?_
  intro w6 g2 s2 b2
  rw [wR_set _ _ _ _ (by omega)] at b2
  have b3 : Blk w6 vb (wCells (half2 V5 a d 8) ++ R) T := b2
  have G6 := Lib.hid (Lib.grownBy_trans G5.out (undrew_grown g2))
  clear b2 g2 s2 va vs ex HV5 G5
  obtain ⟨V6, hVn⟩ : ∃ Vn, half2 V5 a d 8 = Vn := ⟨_, rfl⟩
  rw [hVn] at b3
  have l6 : V6.length = 16 := by rw [← hVn, half2_len]; exact l5
  have x6 : Ws V6 := hVn ▸ half2_ws x5 _ _ _
  have E6 := Lib.hid hVn; clear hVn
  have HV6 := Lib.hid b3; clear b3
  have va := wR_at HV6.out c (by omega)
  have vs := wR_at HV6.out d (by omega)
  go_wp2_with fail
  go_still_tail 12, (by kernel_rfl)
  refine wpList_store_cell rfl 177 _ _ rfl vb c rfl (.int .u32 (((gV V6 c + (gV V6 d + 0)) % 4294967296 : Nat) : Int)) (congrArg (Value.int .u32) (wrap_add2 _ _)) rfl (wCells V6 ++ R) T (show Blk w6.drew vb _ _ from HV6.out) (wR_len _ _ _ (by omega)) (by kernel_rfl) ?_
  intro w7 g2 s2 b2
  rw [wR_set _ _ _ _ (by omega)] at b2
  have b3 : Blk w7 vb (wCells (half1 V6 c d 0) ++ R) T := b2
  have G7 := Lib.hid (Lib.grownBy_trans G6.out (undrew_grown g2))
  clear b2 g2 s2 va vs HV6 G6
  obtain ⟨V7, hVn⟩ : ∃ Vn, half1 V6 c d 0 = Vn := ⟨_, rfl⟩
  rw [hVn] at b3
  have l7 : V7.length = 16 := by rw [← hVn, half1_len]; exact l6
  have x7 : Ws V7 := hVn ▸ half1_ws x6 _ _ _
  have E7 := Lib.hid hVn; clear hVn
  have HV7 := Lib.hid b3; clear b3
  have va := wR_at HV7.out b (by omega)
  have vs := wR_at HV7.out c (by omega)
  have ex := u32_xor_nat _ _ (x7.get b) (x7.get c)
  go_wp2_with fail
  go_still_tail 13, (by kernel_rfl)
  still_call (right_7 _ _ (xor_lt (x7.get b) (x7.get c)))
  repeat still_step
  refine wpStill_nil ?_
  refine wpList_store_cell rfl 177 _ _ rfl vb b rfl (.int .u32 (ror (gV V7 b ^^^ gV V7 c) 7 : Int)) rfl rfl (wCells V7 ++ R) T (show Blk w7.drew vb _ _ from HV7.out) (wR_len _ _ _ (by omega)) (by kernel_rfl) ?_
  intro w8 g2 s2 b2
  rw [wR_set _ _ _ _ (by omega)] at b2
  have b3 : Blk w8 vb (wCells (half2 V7 c b 7) ++ R) T := b2
  have G8 := Lib.hid (Lib.grownBy_trans G7.out (undrew_grown g2))
  clear b2 g2 s2 va vs ex HV7 G7
  obtain ⟨V8, hVn⟩ : ∃ Vn, half2 V7 c b 7 = Vn := ⟨_, rfl⟩
  rw [hVn] at b3
  have l8 : V8.length = 16 := by rw [← hVn, half2_len]; exact l7
  have x8 : Ws V8 := hVn ▸ half2_ws x7 _ _ _
  have E8 := Lib.hid hVn; clear hVn
  have HV8 := Lib.hid b3; clear b3
  go_wp2
  go_end0
  refine ⟨rfl, ?_, G8.out⟩
  have e : mixL V a b c d x y = V8 := by
    unfold mixL halfL
    rw [E1.out, E2.out, E3.out, E4.out, E5.out, E6.out, E7.out, E8.out]
  rw [e]; exact HV8.out

end Go.Proofs.YtcbkehnlgpcelaaGreatDoor
