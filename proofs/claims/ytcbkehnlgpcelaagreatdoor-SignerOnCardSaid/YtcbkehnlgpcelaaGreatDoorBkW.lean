/- Walks of the digest's small steps: a figure, a turn. Walk of half a G. Walk of a G. Walk of a block. Walk of a digest's Write. Walks of a digest's New and Sum. Walk of the digest of a tag and parts. -/
import Derived.Test.YtcbkehnlgpcelaaGreatDoorBk
import Derived.Test.YtcbkehnlgpcelaaGreatDoorForms
import Derived.StillTailTactics
import Derived.Test.YtcbkehnlgpcelaaGreatDoorDecL
import Derived.Test.YtcbkehnlgpcelaaGreatDoorBuild
import Derived.Deep.Cut
import Derived.Deep.CutRange
import Derived.Laws.CopyOwn
import Derived.Test.YtcbkehnlgpcelaaGreatDoorPlain6
import Derived.Test.YtcbkehnlgpcelaaGreatDoorReadH
namespace Go.Proofs.YtcbkehnlgpcelaaGreatDoor
open Go.RowKit
set_option maxRecDepth 100000

set_option maxHeartbeats 400000 in
theorem figure_ok (c : Nat) (w : World) (h : figOk c = true) :
    Calls Tryz.prog 163 #[.int .u8 (c : Int)] w fun e w' => e = .returned (.int .i64 (figN c : Int)) ∧ w' = w := by
  unfold figN
  simp [figOk] at h
  have hc : c < 256 := by omega
  by_cases h97 : 97 ≤ c
  · rw [if_pos h97]
    go_enter Tryz.func163, Tryz.ntmps163
    go_wp2
    go_ret
    exact ⟨by simp; omega, rfl⟩
  · rw [if_neg h97]
    go_enter Tryz.func163, Tryz.ntmps163
    go_wp2
    go_ret
    exact ⟨by simp; omega, rfl⟩

theorem ord_of (L : List UInt8) (hL : L.map UInt8.toNat = ordersL) (k : Nat) (h : k < (⟨L.toArray⟩ : ByteArray).size) : ((⟨L.toArray⟩ : ByteArray)[k]'h).toNat = ordC k := by
  have hlt : k < L.length := by simpa [ByteArray.size] using h
  show ((L.toArray)[k]'(by simpa using hlt)).toNat = _
  unfold ordC
  rw [← hL, List.getD_eq_getElem?_getD, List.getElem?_map, List.getElem?_eq_getElem hlt]
  simp
theorem figure_at (x : UInt8) (k : Nat) (w : World) (h : x.toNat = ordC k) :
    Calls Tryz.prog 163 #[.int .u8 (x.toNat : Int)] w fun e w' => e = .returned (.int .i64 (sg k : Int)) ∧ w' = w := by
  rw [h]; exact figure_ok _ w (ordC_ok k)
theorem ror_16 (x : Nat) (h : x < 4294967296) : bits .or .u32 ((x : Int) * 65536 % 4294967296) ((x : Int) / 65536) = (ror x 16 : Int) := by
  have e : ror x 16 = (x * 65536 % 4294967296 ||| x / 65536) := rfl
  have := u32_or_nat (x * 65536 % 4294967296) (x / 65536) (Nat.mod_lt _ (by omega)) (by omega)
  rw [e, ← this]
  rfl
set_option maxHeartbeats 400000 in
theorem rotate_16 (x : Nat) (w : World) (h : x < 4294967296) :
    Calls Tryz.prog 164 #[.int .u32 (x : Int), .int .i64 (-16)] w fun e w' => e = .returned (.int .u32 (ror x 16 : Int)) ∧ w' = w := by
  have hk : bits .and .u64 (IntKind.u64.wrap (-16)) 31 = 16 := by kernel_rfl
  go_enter Tryz.func164, Tryz.ntmps164
  go_wp2
  rw [ror_16 x h]
  go_ret
  exact ⟨rfl, rfl⟩
theorem ror_12 (x : Nat) (h : x < 4294967296) : bits .or .u32 ((x : Int) * 1048576 % 4294967296) ((x : Int) / 4096) = (ror x 12 : Int) := by
  have e : ror x 12 = (x * 1048576 % 4294967296 ||| x / 4096) := rfl
  have := u32_or_nat (x * 1048576 % 4294967296) (x / 4096) (Nat.mod_lt _ (by omega)) (by omega)
  rw [e, ← this]
  rfl
set_option maxHeartbeats 400000 in
theorem rotate_12 (x : Nat) (w : World) (h : x < 4294967296) :
    Calls Tryz.prog 164 #[.int .u32 (x : Int), .int .i64 (-12)] w fun e w' => e = .returned (.int .u32 (ror x 12 : Int)) ∧ w' = w := by
  have hk : bits .and .u64 (IntKind.u64.wrap (-12)) 31 = 20 := by kernel_rfl
  go_enter Tryz.func164, Tryz.ntmps164
  go_wp2
  rw [ror_12 x h]
  go_ret
  exact ⟨rfl, rfl⟩
theorem ror_8 (x : Nat) (h : x < 4294967296) : bits .or .u32 ((x : Int) * 16777216 % 4294967296) ((x : Int) / 256) = (ror x 8 : Int) := by
  have e : ror x 8 = (x * 16777216 % 4294967296 ||| x / 256) := rfl
  have := u32_or_nat (x * 16777216 % 4294967296) (x / 256) (Nat.mod_lt _ (by omega)) (by omega)
  rw [e, ← this]
  rfl
set_option maxHeartbeats 400000 in
theorem rotate_8 (x : Nat) (w : World) (h : x < 4294967296) :
    Calls Tryz.prog 164 #[.int .u32 (x : Int), .int .i64 (-8)] w fun e w' => e = .returned (.int .u32 (ror x 8 : Int)) ∧ w' = w := by
  have hk : bits .and .u64 (IntKind.u64.wrap (-8)) 31 = 24 := by kernel_rfl
  go_enter Tryz.func164, Tryz.ntmps164
  go_wp2
  rw [ror_8 x h]
  go_ret
  exact ⟨rfl, rfl⟩
theorem ror_7 (x : Nat) (h : x < 4294967296) : bits .or .u32 ((x : Int) * 33554432 % 4294967296) ((x : Int) / 128) = (ror x 7 : Int) := by
  have e : ror x 7 = (x * 33554432 % 4294967296 ||| x / 128) := rfl
  have := u32_or_nat (x * 33554432 % 4294967296) (x / 128) (Nat.mod_lt _ (by omega)) (by omega)
  rw [e, ← this]
  rfl
set_option maxHeartbeats 400000 in
theorem rotate_7 (x : Nat) (w : World) (h : x < 4294967296) :
    Calls Tryz.prog 164 #[.int .u32 (x : Int), .int .i64 (-7)] w fun e w' => e = .returned (.int .u32 (ror x 7 : Int)) ∧ w' = w := by
  have hk : bits .and .u64 (IntKind.u64.wrap (-7)) 31 = 25 := by kernel_rfl
  go_enter Tryz.func164, Tryz.ntmps164
  go_wp2
  rw [ror_7 x h]
  go_ret
  exact ⟨rfl, rfl⟩

theorem wCells_at {w : World} {g : Nat} {V : List Nat} {T : TypeId} (h : Blk w g (wCells V) T) (i : Nat) (hi : i < V.length) : w.cell? ⟨g, i, none⟩ = some (.int .u32 (gV V i : Int)) := by
  have := h.row i _ (wCells_get V i hi)
  rwa [Nat.zero_add] at this
theorem wrap_add3 (p q r : Nat) : IntKind.u32.wrap ((p : Int) + IntKind.u32.wrap ((q : Int) + (r : Int))) = (((p + (q + r)) % 4294967296 : Nat) : Int) := by
  rw [IntKind.wrap_u32', IntKind.wrap_u32']; omega
theorem wrap_add2 (p q : Nat) : IntKind.u32.wrap ((p : Int) + (q : Int)) = (((p + (q + 0)) % 4294967296 : Nat) : Int) := by
  rw [IntKind.wrap_u32']; omega

theorem wrap_neg (x : Nat) (h : x < 32) : IntKind.i64.wrap (-(x : Int)) = -(x : Int) := by
  simp [IntKind.wrap, IntKind.bits, IntKind.signed]; omega
set_option maxHeartbeats 800000 in
theorem half_ok (V M : List Nat) (vb mb pa pb pc pd a b c d k x y : Nat) (w : World)
    (hV : Blk w vb (wCells V) 208) (hM : Blk w mb (wCells M) 208) (hvl : V.length = 16) (hml : M.length = 16) (hvw : Ws V)
    (ha : One w pa (.int .i64 a)) (hb : One w pb (.int .i64 b)) (hc : One w pc (.int .i64 c)) (hd : One w pd (.int .i64 d))
    (na : pa ≠ vb) (nb : pb ≠ vb) (nc : pc ≠ vb) (nd : pd ≠ vb)
    (la : a < 16) (lb : b < 16) (lc : c < 16) (ld : d < 16) (lk : k < 160) (lx : x < 32) (ly : y < 32)
    (rx : ∀ (z : Nat) (w : World), z < 4294967296 → Calls Tryz.prog 164 #[.int .u32 (z : Int), .int .i64 (-(x : Int))] w fun e w' => e = .returned (.int .u32 (ror z x : Int)) ∧ w' = w)
    (ry : ∀ (z : Nat) (w : World), z < 4294967296 → Calls Tryz.prog 164 #[.int .u32 (z : Int), .int .i64 (-(y : Int))] w fun e w' => e = .returned (.int .u32 (ror z y : Int)) ∧ w' = w) :
    Calls Tryz.prog 162 #[.int .i64 k, .int .i64 x, .int .i64 y, .pointer (some ⟨vb, 0, none⟩), .pointer (some ⟨pa, 0, none⟩), .pointer (some ⟨pb, 0, none⟩), .pointer (some ⟨mb, 0, none⟩), .pointer (some ⟨pd, 0, none⟩), .pointer (some ⟨pc, 0, none⟩)] w fun e w' =>
      e = .returned (.tuple #[]) ∧ Blk w' vb (wCells (halfL V a b c d (gV M (sg k)) x y)) 208 ∧ w.grownBy w' (some vb) := by
  have ja : (a : Int) < 16 := by omega
  have jb : (b : Int) < 16 := by omega
  have jc : (c : Int) < 16 := by omega
  have jd : (d : Int) < 16 := by omega
  have jk : (k : Int) < 160 := by omega
  have js : (sg k : Int) < 16 := by have := sg_lt k; omega
  have wx : IntKind.i64.wrap (-(x : Int)) = -(x : Int) := wrap_neg x lx
  have wy : IntKind.i64.wrap (-(y : Int)) = -(y : Int) := wrap_neg y ly
  have HA := Lib.hid ha; have HB := Lib.hid hb; have HC := Lib.hid hc; have HD := Lib.hid hd; have HV := Lib.hid hV
  obtain ⟨ca, _⟩ := ha
  obtain ⟨cb, _⟩ := hb
  have va := wCells_at hV a (by omega)
  have vb' := wCells_at hV b (by omega)
  have ms := wCells_at hM (sg k) (by have := sg_lt k; omega)
  clear hc hd hV
  go_enter Tryz.func162, Tryz.ntmps162
  go_wp2_with fail
  go_still_tail 14, (by kernel_rfl)
  still_call (figure_at _ k _ (ord_of _ (by kernel_rfl) k _))
  repeat still_step
  refine wpStill_nil ?_
  refine wpList_store_cell rfl 177 _ _ rfl vb a rfl (.int .u32 (((gV V a + (gV V b + gV M (sg k))) % 4294967296 : Nat) : Int)) (congrArg (Value.int .u32) (wrap_add3 _ _ _)) rfl (wCells V) 208 (show Blk w.drew vb _ _ from HV.out) (by rw [wCells_length]; omega) (by kernel_rfl) ?_
  intro w2 g2 s2 b2
  rw [← wCells_set] at b2
  have b3 : Blk w2 vb (wCells (half1 V a b (gV M (sg k)))) 208 := b2
  have g3 := undrew_grown g2
  clear b2 g2 s2 ca cb va vb' ms
  obtain ⟨V1, hV1⟩ : ∃ V1, half1 V a b (gV M (sg k)) = V1 := ⟨_, rfl⟩
  rw [hV1] at b3
  have l1 : V1.length = 16 := by rw [← hV1, half1_len]; exact hvl
  have x1 : Ws V1 := hV1 ▸ half1_ws hvw _ _ _
  have E1 := Lib.hid hV1; clear hV1
  have HV2 := Lib.hid b3; have G := Lib.hid g3
  have cd := (HD.out.grown g3 (by simpa using nd)).1
  have ca := (HA.out.grown g3 (by simpa using na)).1
  have va := wCells_at b3 a (by omega)
  have vd := wCells_at b3 d (by omega)
  have ex := u32_xor_nat _ _ (x1.get d) (x1.get a)
  clear b3 g3
  go_wp2_with fail
  go_still_tail 12, (by kernel_rfl)
  still_call (rx _ _ (xor_lt (x1.get d) (x1.get a)))
  repeat still_step
  refine wpStill_nil ?_
  refine wpList_store_cell rfl 177 _ _ rfl vb d rfl (.int .u32 (ror (gV V1 d ^^^ gV V1 a) x : Int)) rfl rfl (wCells V1) 208 (show Blk w2.drew vb _ _ from HV2.out) (by rw [wCells_length]; omega) (by kernel_rfl) ?_
  intro w3 g2 s2 b2
  rw [← wCells_set] at b2
  have b3 : Blk w3 vb (wCells (half2 V1 a d x)) 208 := b2
  have g3 := Lib.grownBy_trans G.out (undrew_grown g2)
  clear b2 g2 s2 ca cd va vd ex HV2 G
  obtain ⟨V2, hV2⟩ : ∃ V2, half2 V1 a d x = V2 := ⟨_, rfl⟩
  rw [hV2] at b3
  have l2 : V2.length = 16 := by rw [← hV2, half2_len]; exact l1
  have x2 : Ws V2 := hV2 ▸ half2_ws x1 _ _ _
  have E2 := Lib.hid hV2; clear hV2
  have HV3 := Lib.hid b3; have G := Lib.hid g3
  have cc := (HC.out.grown g3 (by simpa using nc)).1
  have cd := (HD.out.grown g3 (by simpa using nd)).1
  have vc := wCells_at b3 c (by omega)
  have vd := wCells_at b3 d (by omega)
  clear b3 g3
  go_wp2_with fail
  go_still_tail 8, (by kernel_rfl)
  refine wpList_store_cell rfl 177 _ _ rfl vb c rfl (.int .u32 (((gV V2 c + (gV V2 d + 0)) % 4294967296 : Nat) : Int)) (congrArg (Value.int .u32) (wrap_add2 _ _)) rfl (wCells V2) 208 (show Blk w3.drew vb _ _ from HV3.out) (by rw [wCells_length]; omega) (by kernel_rfl) ?_
  intro w4 g2 s2 b2
  rw [← wCells_set] at b2
  have b3 : Blk w4 vb (wCells (half1 V2 c d 0)) 208 := b2
  have g3 := Lib.grownBy_trans G.out (undrew_grown g2)
  clear b2 g2 s2 cc cd vc vd HV3 G
  obtain ⟨V3, hV3⟩ : ∃ V3, half1 V2 c d 0 = V3 := ⟨_, rfl⟩
  rw [hV3] at b3
  have l3 : V3.length = 16 := by rw [← hV3, half1_len]; exact l2
  have x3 : Ws V3 := hV3 ▸ half1_ws x2 _ _ _
  have E3 := Lib.hid hV3; clear hV3
  have HV4 := Lib.hid b3; have G := Lib.hid g3
  have cc := (HC.out.grown g3 (by simpa using nc)).1
  have cb := (HB.out.grown g3 (by simpa using nb)).1
  have vc := wCells_at b3 c (by omega)
  have vb' := wCells_at b3 b (by omega)
  have ex := u32_xor_nat _ _ (x3.get b) (x3.get c)
  clear b3 g3
  go_wp2_with fail
  go_still_tail 12, (by kernel_rfl)
  still_call (ry _ _ (xor_lt (x3.get b) (x3.get c)))
  repeat still_step
  refine wpStill_nil ?_
  refine wpList_store_cell rfl 177 _ _ rfl vb b rfl (.int .u32 (ror (gV V3 b ^^^ gV V3 c) y : Int)) rfl rfl (wCells V3) 208 (show Blk w4.drew vb _ _ from HV4.out) (by rw [wCells_length]; omega) (by kernel_rfl) ?_
  intro w5 g2 s2 b2
  rw [← wCells_set] at b2
  have b3 : Blk w5 vb (wCells (half2 V3 c b y)) 208 := b2
  have g3 := Lib.grownBy_trans G.out (undrew_grown g2)
  clear b2 g2 s2 cc cb vc vb' ex HV4 G
  have B := Lib.hid b3; have G := Lib.hid g3; clear b3 g3
  go_wp2
  go_end0
  refine ⟨rfl, ?_, G.out⟩
  have e : halfL V a b c d (gV M (sg k)) x y = half2 V3 c b y := by unfold halfL; rw [E1.out, E2.out, E3.out]
  rw [e]; exact B.out

/-- the captured cells of a half G -/
theorem half_16 (V M : List Nat) (vb mb pa pb pc pd a b c d k : Nat) (w : World)
    (hV : Blk w vb (wCells V) 208) (hM : Blk w mb (wCells M) 208) (hvl : V.length = 16) (hml : M.length = 16) (hvw : Ws V)
    (ha : One w pa (.int .i64 a)) (hb : One w pb (.int .i64 b)) (hc : One w pc (.int .i64 c)) (hd : One w pd (.int .i64 d))
    (na : pa ≠ vb) (nb : pb ≠ vb) (nc : pc ≠ vb) (nd : pd ≠ vb)
    (la : a < 16) (lb : b < 16) (lc : c < 16) (ld : d < 16) (lk : k < 160) :
    Calls Tryz.prog 162 #[.int .i64 k, .int .i64 16, .int .i64 12, .pointer (some ⟨vb, 0, none⟩), .pointer (some ⟨pa, 0, none⟩), .pointer (some ⟨pb, 0, none⟩), .pointer (some ⟨mb, 0, none⟩), .pointer (some ⟨pd, 0, none⟩), .pointer (some ⟨pc, 0, none⟩)] w fun e w' =>
      e = .returned (.tuple #[]) ∧ Blk w' vb (wCells (halfL V a b c d (gV M (sg k)) 16 12)) 208 ∧ w.grownBy w' (some vb) :=
  half_ok V M vb mb pa pb pc pd a b c d k 16 12 w hV hM hvl hml hvw ha hb hc hd na nb nc nd la lb lc ld lk (by omega) (by omega) (fun z w h => rotate_16 z w h) (fun z w h => rotate_12 z w h)
theorem half_8 (V M : List Nat) (vb mb pa pb pc pd a b c d k : Nat) (w : World)
    (hV : Blk w vb (wCells V) 208) (hM : Blk w mb (wCells M) 208) (hvl : V.length = 16) (hml : M.length = 16) (hvw : Ws V)
    (ha : One w pa (.int .i64 a)) (hb : One w pb (.int .i64 b)) (hc : One w pc (.int .i64 c)) (hd : One w pd (.int .i64 d))
    (na : pa ≠ vb) (nb : pb ≠ vb) (nc : pc ≠ vb) (nd : pd ≠ vb)
    (la : a < 16) (lb : b < 16) (lc : c < 16) (ld : d < 16) (lk : k < 160) :
    Calls Tryz.prog 162 #[.int .i64 k, .int .i64 8, .int .i64 7, .pointer (some ⟨vb, 0, none⟩), .pointer (some ⟨pa, 0, none⟩), .pointer (some ⟨pb, 0, none⟩), .pointer (some ⟨mb, 0, none⟩), .pointer (some ⟨pd, 0, none⟩), .pointer (some ⟨pc, 0, none⟩)] w fun e w' =>
      e = .returned (.tuple #[]) ∧ Blk w' vb (wCells (halfL V a b c d (gV M (sg k)) 8 7)) 208 ∧ w.grownBy w' (some vb) :=
  half_ok V M vb mb pa pb pc pd a b c d k 8 7 w hV hM hvl hml hvw ha hb hc hd na nb nc nd la lb lc ld lk (by omega) (by omega) (fun z w h => rotate_8 z w h) (fun z w h => rotate_7 z w h)

theorem four_new (w : World) (x y z u : Value) (T : TypeId) : ∃ W, (((w.alloc (.cells #[x] T)).alloc (.cells #[y] T)).alloc (.cells #[z] T)).alloc (.cells #[u] T) = W ∧ One W w.heap.size x ∧ One W (w.heap.size + 1) y ∧ One W (w.heap.size + 2) z ∧ One W (w.heap.size + 3) u ∧ w.grownBy W none := by
  obtain ⟨W0, h0, x0, y0, s0, b0⟩ := two_new w x y T T
  obtain ⟨W1, h1, z1, u1, s1, b1⟩ := two_new W0 z u T T
  rw [h0, h1]
  rw [s0] at z1 u1
  exact ⟨W1, rfl, x0.below b1 (by omega), y0.below b1 (by omega), z1, u1, Lib.grownBy_trans (below_grown b0) (below_grown b1)⟩

set_option maxHeartbeats 800000 in
theorem g_ok (V M : List Nat) (vb mb a b c d k : Nat) (w : World)
    (hV : Blk w vb (wCells V) 208) (hM : Blk w mb (wCells M) 208) (hvl : V.length = 16) (hml : M.length = 16) (hvw : Ws V) (nm : mb ≠ vb)
    (la : a < 16) (lb : b < 16) (lc : c < 16) (ld : d < 16) (lk : k < 159) :
    Calls Tryz.prog 161 #[.int .i64 a, .int .i64 b, .int .i64 c, .int .i64 d, .int .i64 k, .pointer (some ⟨vb, 0, none⟩), .pointer (some ⟨mb, 0, none⟩)] w fun e w' =>
      e = .returned (.tuple #[]) ∧ Blk w' vb (wCells (mixL V a b c d (gV M (sg k)) (gV M (sg (k + 1))))) 208 ∧ w.grownBy w' (some vb) := by
  have hmf : ∀ (fn : Fn) (first cap : Array Value) (w : World), (Instr.makeFunc fn first cap).run Tryz.prog w = .ok (.func fn first cap) w := fun _ _ _ _ => rfl
  obtain ⟨W, hW, o1, o2, o3, o4, hg⟩ := four_new w (.int .i64 a) (.int .i64 b) (.int .i64 c) (.int .i64 d) 3
  have hvlt := hV.lt
  have hV1 := hV.grown hg (by simp)
  have hM1 := hM.grown hg (by simp)
  have HW := Lib.hid hW; have O1 := Lib.hid o1; have O2 := Lib.hid o2; have O3 := Lib.hid o3; have O4 := Lib.hid o4; have HV := Lib.hid hV1; have HM := Lib.hid hM1; have G := Lib.hid hg
  clear hW o1 o2 o3 o4 hV hM hV1 hM1 hg
  go_enter Tryz.func161, Tryz.ntmps161
  go_upto_region 1 with (fail)
  rw [HW.out]
  go_wp2_with fail
  refine (half_16 V M vb mb w.heap.size (w.heap.size + 1) (w.heap.size + 1 + 1) (w.heap.size + 1 + 1 + 1) a b c d k W HV.out HM.out hvl hml hvw O1.out O2.out O3.out O4.out (by omega) (by omega) (by omega) (by omega) la lb lc ld (by omega)).mono ?_
  rintro e w2 ⟨rfl, b2, g2⟩
  have l2 : (halfL V a b c d (gV M (sg k)) 16 12).length = 16 := by rw [halfL_len]; exact hvl
  have x2 := halfL_ws hvw a b c d (gV M (sg k)) 16 12
  have B2 := Lib.hid b2; have G2 := Lib.hid g2; clear b2 g2
  go_wp2_with fail
  have hs := G.out.size
  refine (show Calls Tryz.prog 162 #[.int .i64 ((k : Int) + 1), .int .i64 8, .int .i64 7, .pointer (some ⟨vb, 0, none⟩), .pointer (some ⟨w.heap.size, 0, none⟩), .pointer (some ⟨w.heap.size + 1, 0, none⟩), .pointer (some ⟨mb, 0, none⟩), .pointer (some ⟨w.heap.size + 1 + 1 + 1, 0, none⟩), .pointer (some ⟨w.heap.size + 1 + 1, 0, none⟩)] w2 _ from
    half_8 _ M vb mb w.heap.size (w.heap.size + 1) (w.heap.size + 1 + 1) (w.heap.size + 1 + 1 + 1) a b c d (k + 1) w2 B2.out (HM.out.grown G2.out (by simpa using nm)) l2 hml x2
      (O1.out.grown G2.out (by simp; omega)) (O2.out.grown G2.out (by simp; omega)) (O3.out.grown G2.out (by simp; omega)) (O4.out.grown G2.out (by simp; omega)) (by omega) (by omega) (by omega) (by omega) la lb lc ld (by omega)).mono ?_
  rintro e w3 ⟨rfl, b3, g3⟩
  have B3 := Lib.hid b3; have G3 := Lib.hid g3; clear b3 g3
  go_wp2
  go_end0
  exact ⟨rfl, B3.out, Lib.grownBy_trans (grown_none G.out) (Lib.grownBy_trans G2.out G3.out)⟩

theorem g_col (V M : List Nat) (vb mb r j : Nat) (w : World)
    (hV : Blk w vb (wCells V) 208) (hM : Blk w mb (wCells M) 208) (hvl : V.length = 16) (hml : M.length = 16) (hvw : Ws V) (nm : mb ≠ vb) (hr : r < 10) (hj : j < 4) :
    Calls Tryz.prog 161 #[.int .i64 j, .int .i64 (4 + (j : Int)), .int .i64 (8 + (j : Int)), .int .i64 (12 + (j : Int)), .int .i64 (16 * (r : Int) + 2 * (j : Int)), .pointer (some ⟨vb, 0, none⟩), .pointer (some ⟨mb, 0, none⟩)] w fun e w' =>
      e = .returned (.tuple #[]) ∧ Blk w' vb (wCells (stepL M V (8 * r + j))) 208 ∧ w.grownBy w' (some vb) := by
  have e : stepL M V (8 * r + j) = mixL V j (4 + j) (8 + j) (12 + j) (gV M (sg (16 * r + 2 * j))) (gV M (sg (16 * r + 2 * j + 1))) := by
    unfold stepL plA plB plC plD
    rw [if_pos (by omega), if_pos (by omega), if_pos (by omega), show (8 * r + j) % 4 = j by omega, show 2 * (8 * r + j) = 16 * r + 2 * j by omega]
  rw [e]
  exact g_ok V M vb mb j (4 + j) (8 + j) (12 + j) (16 * r + 2 * j) w hV hM hvl hml hvw nm (by omega) (by omega) (by omega) (by omega) (by omega)
theorem g_dia (V M : List Nat) (vb mb r j q1 q2 q3 : Nat) (w : World)
    (hV : Blk w vb (wCells V) 208) (hM : Blk w mb (wCells M) 208) (hvl : V.length = 16) (hml : M.length = 16) (hvw : Ws V) (nm : mb ≠ vb) (hr : r < 10) (hj : j < 4)
    (h1 : (j + 1) % 4 = q1) (h2 : (j + 2) % 4 = q2) (h3 : (j + 3) % 4 = q3) :
    Calls Tryz.prog 161 #[.int .i64 j, .int .i64 (4 + (q1 : Int)), .int .i64 (8 + (q2 : Int)), .int .i64 (12 + (q3 : Int)), .int .i64 (16 * (r : Int) + 8 + 2 * (j : Int)), .pointer (some ⟨vb, 0, none⟩), .pointer (some ⟨mb, 0, none⟩)] w fun e w' =>
      e = .returned (.tuple #[]) ∧ Blk w' vb (wCells (stepL M V (8 * r + 4 + j))) 208 ∧ w.grownBy w' (some vb) := by
  have e : stepL M V (8 * r + 4 + j) = mixL V j (4 + q1) (8 + q2) (12 + q3) (gV M (sg (16 * r + 8 + 2 * j))) (gV M (sg (16 * r + 8 + 2 * j + 1))) := by
    unfold stepL plA plB plC plD
    rw [if_neg (by omega), if_neg (by omega), if_neg (by omega), show (8 * r + 4 + j) % 4 = j by omega, show 2 * (8 * r + 4 + j) = 16 * r + 8 + 2 * j by omega, h1, h2, h3]
  rw [e]
  exact g_ok V M vb mb j (4 + q1) (8 + q2) (12 + q3) (16 * r + 8 + 2 * j) w hV hM hvl hml hvw nm (by omega) (by omega) (by omega) (by omega) (by omega)

/-- a state's cells -/
def sCells (H : List Nat) (B : List UInt8) (n done : Nat) : List Value := wCells H ++ Lib.byteCells B ++ [.int .i64 (n : Int), .int .u64 (done : Int)]
theorem Z16_info : (Tryz.prog.info? 208).map (fun i => i.zero.map (fun v => v.cells)) = some (some (wCells (msgL [])).toArray) := by kernel_rfl
theorem Z8_info : (Tryz.prog.info? 203).map (fun i => i.zero.map (fun v => v.cells)) = some (some (wCells (List.replicate 8 0)).toArray) := by kernel_rfl
theorem size8 : (Tryz.prog.info? 203).map (·.size) = some (wCells rootsL).length := by kernel_rfl
theorem copy_8 (H : List Nat) (hH : H.length = 8) : (wCells (msgL [])).take 0 ++ wCells H ++ (wCells (msgL [])).drop (0 + (wCells H).length) = wCells (H ++ List.replicate 8 0) := by
  rw [wCells_length, hH, wCells_append]; rfl
theorem copy_16 (H : List Nat) (hH : H.length = 8) : (wCells (H ++ List.replicate 8 0)).take 8 ++ wCells rootsL ++ (wCells (H ++ List.replicate 8 0)).drop (8 + (wCells rootsL).length) = wCells (H ++ rootsL) := by
  have e : (wCells rootsL).length = 8 := rfl
  rw [e, List.drop_eq_nil_of_le (by rw [wCells_length, List.length_append, hH]; simp), wCells_append, List.take_append_of_le_length (by rw [wCells_length]; omega), List.take_of_length_le (by rw [wCells_length]; omega), wCells_append, List.append_nil]
theorem sCells_h {w : World} {p : Nat} {H : List Nat} {B : List UInt8} {n done : Nat} {T : TypeId} (h : Blk w p (sCells H B n done) T) : RowAt w p 0 (wCells H) := by
  have := RowAt.sub (xs := []) (ys := wCells H) (zs := Lib.byteCells B ++ [.int .i64 (n : Int), .int .u64 (done : Int)]) (by rw [List.nil_append, ← List.append_assoc]; exact h.row)
  exact this
theorem sCells_done {w : World} {p : Nat} {H : List Nat} {B : List UInt8} {n done : Nat} {T : TypeId} (h : Blk w p (sCells H B n done) T) (hl : H.length = 8) (hb : B.length = 64) : w.cell? ⟨p, 73, none⟩ = some (.int .u64 (done : Int)) := by
  have := h.row 73 (.int .u64 (done : Int)) (by
    unfold sCells
    rw [List.getElem?_append_right (by rw [List.length_append, wCells_length, Lib.byteCells_length, hl, hb]; omega), List.length_append, wCells_length, Lib.byteCells_length, hl, hb]; rfl)
  rwa [Nat.zero_add] at this
theorem sCells_word {w : World} {p : Nat} {H : List Nat} {B : List UInt8} {n done : Nat} {T : TypeId} (h : Blk w p (sCells H B n done) T) (hl : H.length = 8) (j : Nat) (hj : j < 8) : w.cell? ⟨p, j, none⟩ = some (.int .u32 (gV H j : Int)) := by
  have := (sCells_h h) j _ (wCells_get H j (by omega))
  rwa [Nat.zero_add] at this
theorem gV_mid (X H : List Nat) (j : Nat) (hx : j ≤ X.length) (_hj : j < H.length) : gV (X.take j ++ H.drop j) j = gV H j := by
  unfold gV
  rw [List.getD_eq_getElem?_getD, List.getD_eq_getElem?_getD, List.getElem?_append_right (by rw [List.length_take]; omega), List.length_take, Nat.min_eq_left hx, Nat.sub_self, List.getElem?_drop, Nat.add_zero]
theorem sCells_length (H : List Nat) (B : List UInt8) (n done : Nat) : (sCells H B n done).length = H.length + B.length + 2 := by
  simp [sCells, wCells_length, Lib.byteCells_length]; omega
theorem sCells_set (H : List Nat) (B : List UInt8) (n done j x : Nat) (hj : j < H.length) : (sCells H B n done).set j (.int .u32 (x : Int)) = sCells (H.set j x) B n done := by
  unfold sCells
  rw [List.append_assoc, List.set_append_left _ _ (by rw [wCells_length]; exact hj), ← wCells_set, List.append_assoc]
theorem set_mid (X H : List Nat) (j : Nat) (hx : j < X.length) (hj : j < H.length) : (X.take j ++ H.drop j).set j (gV X j) = X.take (j + 1) ++ H.drop (j + 1) := by
  rw [List.set_append_right _ _ (by rw [List.length_take]; omega), List.length_take, Nat.min_eq_left (by omega), Nat.sub_self, List.drop_eq_getElem_cons hj, List.set_cons_zero, List.take_succ_eq_append_getElem hx, List.append_assoc]
  have : gV X j = X[j] := by unfold gV; rw [List.getD_eq_getElem?_getD, List.getElem?_eq_getElem hx]; rfl
  rw [this]; rfl
theorem sizeB64 (cs : List Value) (h : cs.length = 64) : (Tryz.prog.info? 204).map (·.size) = some cs.length := by rw [h]; kernel_rfl
theorem sCells_buf {w : World} {p : Nat} {H : List Nat} {B : List UInt8} {n done : Nat} {T : TypeId} (h : Blk w p (sCells H B n done) T) (hl : H.length = 8) : RowAt w p 8 (Lib.byteCells B) := by
  have := RowAt.sub (xs := wCells H) (ys := Lib.byteCells B) (zs := [.int .i64 (n : Int), .int .u64 (done : Int)]) h.row
  rwa [wCells_length, hl] at this

/-- the arm: at a copy into the middle of a block, out of a row -/
theorem wpList_copy_part {P : Program} {ops : Array Oper} {rest : List Oper} {o : Oper} {a : Act} {w : World} {Q : Exit → Act → World → Prop} (hgd : o.guard = none) (d s : Operand) (dT sT : TypeId)
    (ho : o.op = .call { callee := .builtin .copy, args := #[d, s], argTypes := #[dT, sT] }) (elem : TypeId) (hu : P.underlying dT = some (.slice elem)) (hsz : (P.info? elem).map (·.size) = some 1)
    (g k dLen dCap sb so sLen sCap : Nat) (hd : a.eval d = .slice (some ⟨g, k, none⟩) dLen dCap) (hs : a.eval s = .slice (some ⟨sb, so, none⟩) sLen sCap)
    (cur cs : List Value) (T : TypeId) (hb : Blk w g cur T) (hn : cs.length = Nat.min sLen dLen) (hr : RowAt w sb so cs) (hfit : k + cs.length ≤ cur.length) (h1 : ∀ v ∈ cs, v.oneCell' = true)
    (h : ∀ w2, w.grownBy w2 (some g) → w2.heap.size = w.heap.size → Blk w2 g (cur.take k ++ cs ++ cur.drop (k + cs.length)) T → wpList P ops Q rest (a.put o.dst (goInt cs.length)) w2) : wpList P ops Q (o :: rest) a w := by
  refine wpList_copy_own hgd d s dT sT ho elem hu hsz g k dLen dCap ⟨sb, so, none⟩ sLen sCap hd hs cur.toArray T hb cs hn (fun j v hv => ?_) (by simpa using hfit) h1 ?_
  · have hadd : (⟨sb, so, none⟩ : Addr).add j = ⟨sb, so + j, none⟩ := by unfold Addr.add; split <;> simp_all
    rw [hadd]; exact hr j v hv
  · refine h _ ⟨rfl, rfl, rfl, by simp, fun j _ hj => setRow_other w g j _ (by simpa using hj)⟩ (by simp) ?_
    have := setRow_heap w g cur.toArray (cur.take k ++ (cs ++ cur.drop (k + cs.length))).toArray T (0, 0) hb
    rw [← List.append_assoc] at this ⊢
    exact this
theorem run_index_byte (B : List UInt8) (hB : B.length = 64) (j : Nat) (hj : j < 64) (w : World) :
    (Instr.index 204 (.agg (Lib.byteCells B).toArray) (.int .i64 j)).run Tryz.prog w = .ok (.int .u8 ((B.getD j 0).toNat : Int)) w := by
  have hji : (j : Int) < 64 := by omega
  have hc : (Lib.byteCells B)[j]? = some (.int .u8 ((B.getD j 0).toNat : Int)) := by
    rw [byteCells_get B j (by omega)]; simp [List.getD, List.getElem?_eq_getElem (show j < B.length by omega)]
  have hs : (sizeOf 5).run Tryz.prog w = .ok 1 w := by kernel_rfl
  have hagg : (isAgg 5).run Tryz.prog w = .ok false w := by kernel_rfl
  have h0 : (0 : Int) ≤ (j : Int) ∧ (j : Int) < 64 := ⟨by omega, hji⟩
  unfold Instr.index
  simp [asIntOf, Sem.run_bind, run_underlying Tryz.underlying204, hs, Nat.not_le.2 hj, part, hc]
set_option maxHeartbeats 1600000 in
theorem block_ok (H : List Nat) (B : List UInt8) (n done p : Nat) (last : Bool) (w : World)
    (hS : Blk w p (sCells H B n done) 206) (hH : H.length = 8) (hw : Ws H) (hB : B.length = 64) (hd : done < 18446744073709551616)
    (hR : RowAt w 3 0 (wCells rootsL)) (_hp : p ≠ 3) :
    Calls Tryz.prog 157 #[.pointer (some ⟨p, 0, none⟩), .bool last] w fun e w' =>
      e = .returned (.tuple #[]) ∧ Blk w' p (sCells (blockL H B done last) B n done) 206 ∧ w.grownBy w' (some p) := by
  have hmf : ∀ (fn : Fn) (first cap : Array Value) (w : World), (Instr.makeFunc fn first cap).run Tryz.prog w = .ok (.func fn first cap) w := fun _ _ _ _ => rfl
  have hg1 := World.block_lt_of_cell? w ⟨3, 0 + 0, none⟩ (hR 0 _ rfl)
  have HS := Lib.hid hS; have HR := Lib.hid hR
  clear hS hR
  go_enter Tryz.func157, Tryz.ntmps157
  go_wp2_with (refine wpList_alloc_as rfl 208 rfl (wCells (msgL [])) Z16_info ?_)
  intro w1 k1 k2 k3
  have S1 := Lib.hid (HS.out.grown k2 (by simp)); have R1 := Lib.hid (HR.out.grown k2 (by simp)); have M1 := Lib.hid k1; have G1 := Lib.hid k2; have Z1 := Lib.hid k3
  clear k1 k2 k3
  go_wp2_with (refine wpList_alloc_as rfl 208 rfl (wCells (msgL [])) Z16_info ?_)
  intro w2 k1 k2 k3
  have S2 := Lib.hid (S1.out.grown k2 (by simp)); have R2 := Lib.hid (R1.out.grown k2 (by simp)); have M2 := Lib.hid (M1.out.grown k2 (by simp)); have V2 := Lib.hid k1; have G2 := Lib.hid (Lib.grownBy_trans G1.out k2)
  have hlt := HS.out.lt
  have hz1 := Z1.out
  clear k1 k2 k3 HS S1 HR R1 M1 G1
  obtain ⟨mb, hmb⟩ : ∃ m, w.heap.size = m := ⟨_, rfl⟩
  obtain ⟨vb, hvb⟩ : ∃ m, w1.heap.size = m := ⟨_, rfl⟩
  rw [hmb] at M2 hlt hz1 hg1 ⊢
  rw [hvb] at V2 hz1 ⊢
  obtain rfl := hz1
  have Hmb := Lib.hid hmb
  clear hmb hvb Z1
  go_wp2_with (first | (refine wpList_load_part rfl 204 _ rfl p 8 rfl (Lib.byteCells B) _ (sCells_buf S2.out hH) Tryz.underlying204 rfl (sizeB64 _ (by rw [Lib.byteCells_length]; exact hB)) ?_))
  go_loopw [18] (fun i wr => ∃ j : Nat, j ≤ 64 ∧ i = .int .i64 j ∧ Blk wr mb (wCells (msgL (B.take j))) 208 ∧ w2.grownBy wr (some mb)) (fun i _ => 64 - (intOf i).toNat)
  case atStart => exact ⟨0, Nat.zero_le _, rfl, M2.out, ⟨rfl, rfl, rfl, Nat.le_refl _, fun _ _ _ => rfl⟩⟩
  case round =>
    obtain ⟨j, hj, rfl, hm, hg⟩ := hrel
    have Hm := Lib.hid hm; have Hg := Lib.hid hg; clear hg
    by_cases hlt2 : j < 64
    · have hji : (j : Int) < 64 := by omega
      have hix := run_index_byte B hB j hlt2
      obtain ⟨cj, hcj⟩ : ∃ c : Nat, (B.getD j 0).toNat = c := ⟨_, rfl⟩
      have hc8 : cj < 256 := hcj ▸ UInt8.toNat_lt _
      rw [hcj] at hix
      have Hcj := Lib.hid hcj; clear hcj
      obtain ⟨q, hq⟩ : ∃ q, j / 4 = q := ⟨_, rfl⟩
      have hq16 : q < 16 := by omega
      have hqi : (q : Int) < 16 := by omega
      have eq4 : IntKind.i64.wrap ((j : Int) / 4) = (q : Int) := by simp [IntKind.wrap, IntKind.bits, IntKind.signed]; omega
      obtain ⟨r, hr⟩ : ∃ r, j % 4 = r := ⟨_, rfl⟩
      have er : ((j : Int)).tmod 4 = (r : Int) := by rw [Int.tmod_eq_emod_of_nonneg (by omega)]; omega
      obtain ⟨sf, hsf⟩ : ∃ s, r * 8 = s := ⟨_, rfl⟩
      have hsf24 : sf ≤ 24 := by omega
      have hsf32 : (sf : Int) ≤ 32 := by omega
      have es : IntKind.i64.wrap ((r : Int) * 8) = (sf : Int) := by simp [IntKind.wrap, IntKind.bits, IntKind.signed]; omega
      obtain ⟨y, hy⟩ : ∃ y, cj * 2 ^ sf = y := ⟨_, rfl⟩
      have hy32 : y < 4294967296 := by
        have h1 : 2 ^ sf ≤ 2 ^ 24 := Nat.pow_le_pow_right (by omega) hsf24
        have h2 : cj * 2 ^ sf ≤ cj * 2 ^ 24 := Nat.mul_le_mul_left _ h1
        omega
      have ew : IntKind.u32.wrap (cj : Int) = (cj : Int) := by rw [IntKind.wrap_u32']; omega
      have esh : IntKind.u32.wrap ((cj : Int) * 2 ^ sf) = (y : Int) := by
        have e : ((cj : Int) * 2 ^ sf) = (y : Int) := by rw [← hy]; simp
        rw [e, IntKind.wrap_u32']; omega
      have eor := u32_or_nat (gV (msgL (B.take j)) q) y ((msgL_ws _).get _) hy32
      have cm := wCells_at hm q (by rw [msgL_len]; omega)
      have Hq := Lib.hid hq; have Hr := Lib.hid hr; have Hs := Lib.hid hsf; have Hy := Lib.hid hy
      clear hm hq hr hsf hy
      go_wp2_with fail
      go_still_tail 12, (by kernel_rfl)
      refine wpList_store_cell rfl 177 _ _ rfl mb q rfl (.int .u32 ((gV (msgL (B.take j)) q ||| y : Nat) : Int)) rfl rfl (wCells (msgL (B.take j))) 208 (show Blk wr.drew mb _ _ from Hm.out) (by rw [wCells_length, msgL_len]; omega) (by kernel_rfl) ?_
      intro w3 g3 s3 b3
      rw [← wCells_set, ← Hy.out, ← Hcj.out, ← Hs.out, ← Hr.out, ← Hq.out, ← msgL_step] at b3
      have b4 := Lib.hid b3; have g4 := Lib.hid (Lib.grownBy_trans Hg.out (undrew_grown g3)); clear b3 g3 s3
      go_wp2
      exact ⟨⟨j + 1, by omega, by go_num, b4.out, g4.out⟩, by simp [intOf]; omega⟩
    · obtain rfl : j = 64 := by omega
      have eB : B.take 64 = B := List.take_of_length_le (by omega)
      rw [eB] at hm
      have S3 := Lib.hid (S2.out.grown Hg.out (by simp; omega)); have R3 := Lib.hid (R2.out.grown Hg.out (by simp; omega)); have V3 := Lib.hid (V2.out.grown Hg.out (by simp)); have M3 := Lib.hid hm; have G3 := Lib.hid (grown_new G2.out Hg.out (by rw [Hmb.out]; exact Nat.le_refl _))
      have hlt3 : mb + 1 < wr.heap.size := V3.out.lt
      clear hm S2 R2 V2 M2 Hm Hg G2 hj eB
      go_wp2_with (first | (refine wpList_load_part rfl 203 _ rfl 3 0 rfl (wCells rootsL) _ R3.out Tryz.underlying203 rfl size8 ?_) | (refine wpList_alloc_as rfl 203 rfl (wCells (List.replicate 8 0)) Z8_info ?_))
      intro w3 k1 k2 k3
      have S4 := Lib.hid (S3.out.grown k2 (by simp)); have V4 := Lib.hid (V3.out.grown k2 (by simp)); have M4 := Lib.hid (M3.out.grown k2 (by simp)); have B4 := Lib.hid k1; have G4 := Lib.hid (Lib.grownBy_trans G3.out (grown_none k2))
      clear k1 k2 k3 S3 V3 M3 G3
      obtain ⟨bb, hbb⟩ : ∃ m, wr.heap.size = m := ⟨_, rfl⟩
      rw [hbb] at B4 hlt3 ⊢
      clear hbb
      go_wp2_with (first | (refine wpList_store_whole rfl 203 _ _ rfl bb rfl (wCells rootsL) (wCells (List.replicate 8 0)) 203 rfl B4.out rfl (wCells_one _) size8 ?_))
      intro w4 g4 s4 b4
      have S5 := Lib.hid (S4.out.grown g4 (by simp; omega)); have V5 := Lib.hid (V4.out.grown g4 (by simp; omega)); have M5 := Lib.hid (M4.out.grown g4 (by simp; omega)); have B5 := Lib.hid b4; have G5 := Lib.hid (grown_new G4.out g4 (by rw [Hmb.out]; omega))
      clear g4 s4 b4 S4 V4 M4 B4 G4
      go_wp2_with fail
      go_still_tail 5, (by kernel_rfl)
      refine wpList_copy_part rfl _ _ 176 176 rfl 177 Tryz.underlying176 (by kernel_rfl) (mb + 1) 0 16 16 p 0 8 8 rfl rfl (wCells (msgL [])) (wCells H) 208 (show Blk w4.drew _ _ _ from V5.out) (by rw [wCells_length, hH]; rfl) (show RowAt w4.drew _ _ _ from sCells_h S5.out) (by rw [wCells_length, wCells_length, hH, msgL_len]; omega) (wCells_one _) ?_
      intro w5 g5 s5 b5
      rw [copy_8 H hH] at b5
      have g5' := undrew_grown g5
      have S6 := Lib.hid (S5.out.grown g5' (by simp; omega)); have M6 := Lib.hid (M5.out.grown g5' (by simp)); have B6 := Lib.hid (B5.out.grown g5' (by simp; omega)); have V6 := Lib.hid b5; have G6 := Lib.hid (grown_new G5.out g5' (by rw [Hmb.out]; omega))
      clear g5 s5 b5 g5' S5 V5 M5 B5 G5
      go_wp2_with fail
      go_still_tail 2, (by kernel_rfl)
      refine wpList_copy_part rfl _ _ 176 176 rfl 177 Tryz.underlying176 (by kernel_rfl) (mb + 1) 8 8 8 bb 0 8 8 rfl rfl (wCells (H ++ List.replicate 8 0)) (wCells rootsL) 208 (show Blk w5.drew _ _ _ from V6.out) (by rfl) (show RowAt w5.drew _ _ _ from B6.out.row) (by rw [wCells_length, wCells_length, List.length_append, hH]; simp [rootsL]) (wCells_one _) ?_
      intro w6 g5 s5 b5
      rw [copy_16 H hH] at b5
      have g5' := undrew_grown g5
      have S7 := Lib.hid (S6.out.grown g5' (by simp; omega)); have M7 := Lib.hid (M6.out.grown g5' (by simp)); have V7 := Lib.hid b5; have G7 := Lib.hid (grown_new G6.out g5' (by rw [Hmb.out]; omega))
      clear g5 s5 b5 g5' S6 V6 M6 B6 G6
      obtain ⟨V0, hV0⟩ : ∃ V, H ++ rootsL = V := ⟨_, rfl⟩
      have l0 : V0.length = 16 := by rw [← hV0, List.length_append, hH]; rfl
      have x0 : Ws V0 := hV0 ▸ hw.append rootsL_ws
      rw [hV0] at V7
      have E0 := Lib.hid hV0; clear hV0
      have cd := sCells_done S7.out hH hB
      have c12 := wCells_at V7.out 12 (by omega)
      have hdm : done % 4294967296 < 4294967296 := Nat.mod_lt _ (by omega)
      have edw : IntKind.u32.wrap (done : Int) = ((done % 4294967296 : Nat) : Int) := by rw [IntKind.wrap_u32']; omega
      obtain ⟨dl, hdl⟩ : ∃ x, done % 4294967296 = x := ⟨_, rfl⟩
      rw [hdl] at edw hdm
      have ex := u32_xor_nat _ _ (x0.get 12) hdm
      have Hdl := Lib.hid hdl; clear hdl
      go_wp2_with fail
      go_still_tail 9, (by kernel_rfl)
      refine wpList_store_cell rfl 177 _ _ rfl (mb + 1) 12 rfl (.int .u32 ((gV V0 12 ^^^ dl : Nat) : Int)) rfl rfl (wCells V0) 208 (show Blk w6.drew _ _ _ from V7.out) (by rw [wCells_length]; omega) (by kernel_rfl) ?_
      intro w7 g5 s5 b5
      rw [← wCells_set, ← Hdl.out] at b5
      have g5' := undrew_grown g5
      have S8 := Lib.hid (S7.out.grown g5' (by simp; omega)); have M8 := Lib.hid (M7.out.grown g5' (by simp)); have V8 := Lib.hid b5; have G8 := Lib.hid (grown_new G7.out g5' (by rw [Hmb.out]; omega))
      clear g5 s5 b5 g5' S7 V7 M7 G7 cd c12 edw ex Hdl hdm
      obtain ⟨V1, hV1⟩ : ∃ V, V0.set 12 (gV V0 12 ^^^ done % 4294967296) = V := ⟨_, rfl⟩
      rw [hV1] at V8
      have l1 : V1.length = 16 := by rw [← hV1, List.length_set]; exact l0
      have x1 : Ws V1 := hV1 ▸ x0.set _ _ (xor_lt (x0.get _) (Nat.mod_lt _ (by omega)))
      have E1 := Lib.hid hV1; clear hV1
      have cd := sCells_done S8.out hH hB
      have c13 := wCells_at V8.out 13 (by omega)
      have hdm : done / 4294967296 < 4294967296 := Nat.div_lt_of_lt_mul (by omega)
      have edw : IntKind.u32.wrap ((done : Int) / 4294967296) = ((done / 4294967296 : Nat) : Int) := by rw [IntKind.wrap_u32']; omega
      obtain ⟨dh, hdh⟩ : ∃ x, done / 4294967296 = x := ⟨_, rfl⟩
      rw [hdh] at edw hdm
      have ex := u32_xor_nat _ _ (x1.get 13) hdm
      have Hdh := Lib.hid hdh; clear hdh
      go_wp2_with fail
      go_still_tail 10, (by kernel_rfl)
      refine wpList_store_cell rfl 177 _ _ rfl (mb + 1) 13 rfl (.int .u32 ((gV V1 13 ^^^ dh : Nat) : Int)) rfl rfl (wCells V1) 208 (show Blk w7.drew _ _ _ from V8.out) (by rw [wCells_length]; omega) (by kernel_rfl) ?_
      intro wb g5 s5 b5
      rw [← wCells_set, ← Hdh.out] at b5
      have g5' := undrew_grown g5
      have S9 := Lib.hid (S8.out.grown g5' (by simp; omega)); have M9 := Lib.hid (M8.out.grown g5' (by simp)); have V9 := Lib.hid b5; have G9 := Lib.hid (grown_new G8.out g5' (by rw [Hmb.out]; omega))
      clear g5 s5 b5 g5' S8 V8 M8 G8 cd c13 edw ex Hdh hdm
      obtain ⟨V2, hV2⟩ : ∃ V, V1.set 13 (gV V1 13 ^^^ done / 4294967296) = V := ⟨_, rfl⟩
      rw [hV2] at V9
      have l2 : V2.length = 16 := by rw [← hV2, List.length_set]; exact l1
      have x2 : Ws V2 := hV2 ▸ x1.set _ _ (xor_lt (x1.get _) (Nat.div_lt_of_lt_mul (by omega)))
      have E2 := Lib.hid hV2; clear hV2
      have c14 := wCells_at V9.out 14 (by omega)
      go_upto_if 64 with (fail)
      go_cut [1] from 14 to 68 (fun s1 wx => s1 = .bool last ∧ Blk wx (mb + 1) (wCells (beginL H done last)) 208 ∧ wb.grownBy wx (some (mb + 1)))
      case first =>
        cases last with
        | true =>
          have ex : bits .xor .u32 IntKind.u32.max (gV V2 14 : Int) = ((gV V2 14 ^^^ 4294967295 : Nat) : Int) := by
            rw [Nat.xor_comm]; exact u32_xor_nat 4294967295 (gV V2 14) (by omega) (x2.get 14)
          have V9' := V9.out
          have hns : IntKind.u32.signed = false := rfl
          have e : beginL H done true = V2.set 14 (gV V2 14 ^^^ 4294967295) := by unfold beginL; simp only [E0.out, E1.out, E2.out]; rfl
          have He := Lib.hid e; clear e
          go_wp2_with (first | (refine wpList_store_cell rfl 177 _ _ rfl (mb + 1) 14 rfl (.int .u32 ((gV V2 14 ^^^ 4294967295 : Nat) : Int)) (by first | rfl | exact congrArg (Value.int .u32) ex) rfl (wCells V2) 208 V9' (by rw [wCells_length]; omega) (by kernel_rfl) ?_))
          intro w9 g5 s5 b5
          rw [← wCells_set, ← He.out] at b5
          have VB := Lib.hid b5; have GB := Lib.hid g5
          clear g5 s5 b5 c14 ex He hns V9'
          go_wp2_with fail
          go_meet
          case rel => exact ⟨rfl, VB.out, GB.out⟩
        | false =>
          have e : beginL H done false = V2 := by unfold beginL; simp only [E0.out, E1.out, E2.out]; rfl
          have VB := Lib.hid (show Blk wb (mb + 1) (wCells (beginL H done false)) 208 by rw [e]; exact V9.out)
          clear c14 e
          go_wp2_with fail
          go_meet
          case rel => exact ⟨rfl, VB.out, ⟨rfl, rfl, rfl, Nat.le_refl _, fun _ _ _ => rfl⟩⟩
      case rest =>
        obtain ⟨rfl, hvb, hgb⟩ := hcut
        have VB := Lib.hid hvb; have SB := Lib.hid (S9.out.grown hgb (by simp; omega)); have MB := Lib.hid (M9.out.grown hgb (by simp)); have GB := Lib.hid (grown_new G9.out hgb (by rw [Hmb.out]; omega))
        clear hvb hgb S9 M9 V9 G9 c14
        generalize hlw : beginL H done last = Vb at VB
        have lb : Vb.length = 16 := by rw [← hlw]; exact beginL_len _ _ _ hH
        have xb : Ws Vb := by rw [← hlw]; exact beginL_ws hw _ hd _
        have Hlw := Lib.hid hlw; clear hlw
        go_wp2_with fail
        go_loopw [70] (fun i wr => ∃ r : Nat, r ≤ 10 ∧ i = .int .i64 r ∧ Blk wr (mb + 1) (wCells (stepsL (msgL B) Vb (8 * r))) 208 ∧ wc.grownBy wr (some (mb + 1))) (fun i _ => 10 - (intOf i).toNat)
        case atStart => exact ⟨0, Nat.zero_le _, rfl, VB.out, ⟨rfl, rfl, rfl, Nat.le_refl _, fun _ _ _ => rfl⟩⟩
        case round =>
          obtain ⟨r, hr, rfl, hv, hg⟩ := hrel
          have Hv := Lib.hid hv; have Hg := Lib.hid hg; clear hv hg
          by_cases hr10 : r < 10
          · have hr10i : (r : Int) < 10 := by omega
            go_wp2_with fail
            go_loopw [73] (fun i wi => ∃ j : Nat, j ≤ 4 ∧ i = .int .i64 j ∧ Blk wi (mb + 1) (wCells (stepsL (msgL B) Vb (8 * r + j))) 208 ∧ wc.grownBy wi (some (mb + 1))) (fun i _ => 4 - (intOf i).toNat)
            case atStart => exact ⟨0, Nat.zero_le _, rfl, Hv.out, Hg.out⟩
            case round =>
              obtain ⟨j, hj, rfl, hv2, hg2⟩ := hrel
              have Hv2 := Lib.hid hv2; have Hg2 := Lib.hid hg2; clear hv2 hg2
              by_cases hj4 : j < 4
              · have hj4i : (j : Int) < 4 := by omega
                go_wp2_with fail
                refine (g_col _ (msgL B) (mb + 1) mb r j wr Hv2.out (MB.out.grown Hg2.out (by simp)) (by rw [stepsL_len]; exact lb) (msgL_len _) (stepsL_ws xb _ _) (by omega) hr10 hj4).mono ?_
                rintro e w10 ⟨rfl, b10, g10⟩
                have B10 := Lib.hid b10; have G10 := Lib.hid (Lib.grownBy_trans Hg2.out g10); clear b10 g10
                go_wp2
                exact ⟨⟨j + 1, by omega, by go_num, B10.out, G10.out⟩, by simp [intOf]; omega⟩
              · have ej : j = 4 := by omega
                have eji : (j : Int) = 4 := by omega
                rw [ej] at Hv2
                rw [eji]
                clear eji ej hj4
                go_wp2_with fail
                go_loopw [91] (fun i wi => ∃ j : Nat, j ≤ 4 ∧ i = .int .i64 j ∧ Blk wi (mb + 1) (wCells (stepsL (msgL B) Vb (8 * r + 4 + j))) 208 ∧ wc.grownBy wi (some (mb + 1))) (fun i _ => 4 - (intOf i).toNat)
                case atStart => exact ⟨0, Nat.zero_le _, rfl, Hv2.out, Hg2.out⟩
                case round =>
                  obtain ⟨j, hj, rfl, hv3, hg3⟩ := hrel
                  have Hv3 := Lib.hid hv3; have Hg3 := Lib.hid hg3; clear hv3 hg3
                  by_cases hj4 : j < 4
                  · have hj4i : (j : Int) < 4 := by omega
                    obtain ⟨q1, h1⟩ : ∃ q, (j + 1) % 4 = q := ⟨_, rfl⟩
                    obtain ⟨q2, h2⟩ : ∃ q, (j + 2) % 4 = q := ⟨_, rfl⟩
                    obtain ⟨q3, h3⟩ : ∃ q, (j + 3) % 4 = q := ⟨_, rfl⟩
                    have e1 : ((j : Int) + 1).tmod 4 = (q1 : Int) := by rw [Int.tmod_eq_emod_of_nonneg (by omega)]; omega
                    have e2 : ((j : Int) + 2).tmod 4 = (q2 : Int) := by rw [Int.tmod_eq_emod_of_nonneg (by omega)]; omega
                    have e3 : ((j : Int) + 3).tmod 4 = (q3 : Int) := by rw [Int.tmod_eq_emod_of_nonneg (by omega)]; omega
                    have q14 : q1 < 4 := by omega
                    have q24 : q2 < 4 := by omega
                    have q34 : q3 < 4 := by omega
                    have Hq1 := Lib.hid h1; have Hq2 := Lib.hid h2; have Hq3 := Lib.hid h3; clear h1 h2 h3
                    go_wp2_with fail
                    refine (g_dia _ (msgL B) (mb + 1) mb r j q1 q2 q3 wr Hv3.out (MB.out.grown Hg3.out (by simp)) (by rw [stepsL_len]; exact lb) (msgL_len _) (stepsL_ws xb _ _) (by omega) hr10 hj4 Hq1.out Hq2.out Hq3.out).mono ?_
                    rintro e w10 ⟨rfl, b10, g10⟩
                    have B10 := Lib.hid b10; have G10 := Lib.hid (Lib.grownBy_trans Hg3.out g10); clear b10 g10
                    go_wp2
                    exact ⟨⟨j + 1, by omega, by go_num, B10.out, G10.out⟩, by simp [intOf]; omega⟩
                  · obtain rfl : j = 4 := by omega
                    go_wp2
                    exact ⟨⟨r + 1, by omega, by go_num, Hv3.out, Hg3.out⟩, by simp [intOf]; omega⟩
          · have er : r = 10 := by omega
            have eri : (r : Int) = 10 := by omega
            rw [er] at Hv
            rw [eri]
            clear er eri hr10
            have SC := Lib.hid (SB.out.grown Hg.out (by simp; omega)); have GC := Lib.hid (grown_new GB.out Hg.out (by rw [Hmb.out]; omega))
            go_wp2_with fail
            have lv : (stepsL (msgL B) Vb 80).length = 16 := by rw [stepsL_len]; exact lb
            have xv : Ws (stepsL (msgL B) Vb 80) := stepsL_ws xb _ _
            have hbk : ∀ i, i < 8 → gV (blockL H B done last) i = gV H i ^^^ (gV (stepsL (msgL B) Vb 80) i ^^^ gV (stepsL (msgL B) Vb 80) (i + 8)) := fun i hi => by
              rw [← Hlw.out]; exact blockL_get H B done last i hi
            have hbl := blockL_len H B done last
            obtain ⟨X, hX⟩ : ∃ X, blockL H B done last = X := ⟨_, rfl⟩
            obtain ⟨Y, hY⟩ : ∃ Y, stepsL (msgL B) Vb 80 = Y := ⟨_, rfl⟩
            rw [hX] at hbk hbl
            rw [hY] at hbk lv xv
            have HvY := Lib.hid (show Blk wr (mb + 1) (wCells Y) 208 by rw [← hY]; exact Hv.out)
            have Hbk := Lib.hid hbk; have HX := Lib.hid hX
            clear hX hY hbk Hv Hlw MB VB SB GB
            go_loopw [117] (fun i wi => ∃ j : Nat, j ≤ 8 ∧ i = .int .i64 j ∧ Blk wi p (sCells (X.take j ++ H.drop j) B n done) 206 ∧ wr.grownBy wi (some p)) (fun i _ => 8 - (intOf i).toNat)
            case atStart => exact ⟨0, Nat.zero_le _, rfl, SC.out, ⟨rfl, rfl, rfl, Nat.le_refl _, fun _ _ _ => rfl⟩⟩
            case round =>
              obtain ⟨j, hj, rfl, hs3, hg3⟩ := hrel
              have Hs3 := Lib.hid hs3; have Hg3 := Lib.hid hg3
              by_cases hj8 : j < 8
              · have hj8i : (j : Int) < 8 := by omega
                have hj16i : (j : Int) < 16 := by omega
                have hlen : (X.take j ++ H.drop j).length = 8 := by rw [List.length_append, List.length_take, List.length_drop]; omega
                have xj := xv.get j
                have xj8 := xv.get (j + 8)
                have ch := sCells_word Hs3.out hlen j hj8
                have c1 := wCells_at (HvY.out.grown Hg3.out (by simp; omega)) j (by omega)
                obtain ⟨j8, hj8e⟩ : ∃ x, j + 8 = x := ⟨_, rfl⟩
                have hj8p : (j8 : Int) < 16 := by omega
                have ej8 : (j : Int) + 8 = (j8 : Int) := by omega
                have ew8 : IntKind.i64.wrap (j8 : Int) = (j8 : Int) := by simp [IntKind.wrap, IntKind.bits, IntKind.signed]; omega
                have c2 := wCells_at (HvY.out.grown Hg3.out (by simp; omega)) j8 (by omega)
                have egx : gV (X.take j ++ H.drop j) j = gV H j := gV_mid X H j (by omega) (by omega)
                rw [egx] at ch
                have ex1 := u32_xor_nat _ _ (xv.get j) (xv.get j8)
                have ex2 := u32_xor_nat _ _ (hw.get j) (xor_lt (xv.get j) (xv.get j8))
                have Hj8 := Lib.hid hj8e
                clear hs3 hg3 hj8e xj xj8
                go_wp2_with fail
                go_still_tail 18, (by kernel_rfl)
                refine wpList_store_cell rfl 177 _ _ rfl p j rfl (.int .u32 ((gV H j ^^^ (gV Y j ^^^ gV Y j8) : Nat) : Int)) rfl rfl (sCells (X.take j ++ H.drop j) B n done) 206 (show Blk wr.drew _ _ _ from Hs3.out) (by rw [sCells_length, hlen]; omega) (by kernel_rfl) ?_
                intro w10 g5 s5 b5
                have eX : gV X j = gV H j ^^^ (gV Y j ^^^ gV Y j8) := by rw [Hbk.out j hj8, Hj8.out]
                rw [← eX, sCells_set _ _ _ _ j _ (by omega), set_mid X H j (by omega) (by omega)] at b5
                have B10 := Lib.hid b5; have G10 := Lib.hid (Lib.grownBy_trans Hg3.out (undrew_grown g5)); clear b5 g5 s5
                go_wp2
                exact ⟨⟨j + 1, by omega, by go_num, B10.out, G10.out⟩, by simp [intOf]; omega⟩
              · have ej : j = 8 := by omega
                rw [ej, List.take_of_length_le (by omega), List.drop_eq_nil_of_le (by omega), List.append_nil] at hs3
                go_wp2_with fail
                go_end0
                refine ⟨rfl, ?_, Lib.grownBy_trans (grown_none GC.out) hg3⟩
                rw [HX.out]; exact hs3

/-- block p is a digest under way -/
def IsB (w : World) (p : Nat) (s : BkS) : Prop :=
  ∃ tail, Blk w p (sCells s.H (s.buf ++ tail) s.buf.length s.done) 206 ∧ s.buf.length + tail.length = 64 ∧ s.H.length = 8 ∧ Ws s.H
def BkS.size (s : BkS) : Nat := s.done + s.buf.length
theorem BkS.put_size (s : BkS) (c : UInt8) (h : s.buf.length ≤ 64) : (s.put c).size = s.size + 1 ∧ (s.put c).buf.length ≤ 64 := by
  unfold BkS.put BkS.size
  split
  · simp; omega
  · simp; omega
theorem BkS.puts_size : ∀ (l : List UInt8) (s : BkS), s.buf.length ≤ 64 → (s.puts l).size = s.size + l.length ∧ (s.puts l).buf.length ≤ 64
  | [], s, h => ⟨rfl, h⟩
  | c :: l, s, h => by
    obtain ⟨h1, h2⟩ := s.put_size c h
    obtain ⟨h3, h4⟩ := BkS.puts_size l (s.put c) h2
    rw [BkS.puts_cons]
    refine ⟨?_, h4⟩
    rw [h3, h1, List.length_cons]; omega

theorem sCells_setB (H : List Nat) (B : List UInt8) (n done k : Nat) (c : UInt8) (hl : H.length = 8) (hk : k < B.length) : (sCells H B n done).set (8 + k) (.int .u8 (c.toNat : Int)) = sCells H (B.set k c) n done := by
  unfold sCells
  rw [List.append_assoc, List.set_append_right _ _ (by rw [wCells_length, hl]; omega), wCells_length, hl, Nat.add_sub_cancel_left, List.set_append_left _ _ (by rw [Lib.byteCells_length]; exact hk), List.append_assoc]
  congr 2
  simp [Lib.byteCells, List.map_set]
theorem sCells_setN (H : List Nat) (B : List UInt8) (n done m : Nat) (hl : H.length = 8) (hb : B.length = 64) : (sCells H B n done).set 72 (.int .i64 (m : Int)) = sCells H B m done := by
  unfold sCells
  have e : (wCells H ++ Lib.byteCells B).length = 72 := by rw [List.length_append, wCells_length, Lib.byteCells_length, hl, hb]
  rw [List.set_append_right _ _ (by rw [e]; exact Nat.le_refl _), e]; rfl
theorem sCells_setD (H : List Nat) (B : List UInt8) (n done m : Nat) (hl : H.length = 8) (hb : B.length = 64) : (sCells H B n done).set 73 (.int .u64 (m : Int)) = sCells H B n m := by
  unfold sCells
  have e : (wCells H ++ Lib.byteCells B).length = 72 := by rw [List.length_append, wCells_length, Lib.byteCells_length, hl, hb]
  rw [List.set_append_right _ _ (by rw [e]; omega), e]; rfl
theorem sCells_n {w : World} {p : Nat} {H : List Nat} {B : List UInt8} {n done : Nat} {T : TypeId} (h : Blk w p (sCells H B n done) T) (hl : H.length = 8) (hb : B.length = 64) : w.cell? ⟨p, 72, none⟩ = some (.int .i64 (n : Int)) := by
  have := h.row 72 (.int .i64 (n : Int)) (by
    unfold sCells
    rw [List.getElem?_append_right (by rw [List.length_append, wCells_length, Lib.byteCells_length, hl, hb]; omega), List.length_append, wCells_length, Lib.byteCells_length, hl, hb]; rfl)
  rwa [Nat.zero_add] at this

set_option maxHeartbeats 1600000 in
theorem Write_ok (s : BkS) (l : List UInt8) (p : Nat) (v : Value) (w : World) (h : IsB w p s) (hv : RdB w v l) (hne : ∀ g o n c, v = .slice (some ⟨g, o, none⟩) n c → g ≠ p)
    (hR : RowAt w 3 0 (wCells rootsL)) (hp : p ≠ 3) (hlen : s.size + l.length < 4611686018427387904) (hb : s.buf.length ≤ 64) :
    Calls Tryz.prog 144 #[.pointer (some ⟨p, 0, none⟩), v] w fun e w' => e = .returned (.tuple #[]) ∧ IsB w' p (s.puts l) ∧ w.grownBy w' (some p) := by
  obtain ⟨ao, cp, rfl, hc1, hc2, hv⟩ := hv
  have HB := Lib.hid h; have HV := Lib.hid hv; have HR := Lib.hid hR; have Hne := Lib.hid hne
  clear h hv hR hne
  go_enter Tryz.func144, Tryz.ntmps144
  go_wp2_with fail
  go_loopw [10] (fun i wr => ∃ j : Nat, j ≤ l.length ∧ i = .int .i64 j ∧ IsB wr p (s.puts (l.take j)) ∧ w.grownBy wr (some p)) (fun i _ => l.length - (intOf i).toNat)
  case atStart => exact ⟨0, Nat.zero_le _, rfl, HB.out, ⟨rfl, rfl, rfl, Nat.le_refl _, fun _ _ _ => rfl⟩⟩
  case round =>
    obtain ⟨j, hj, rfl, hs, hg⟩ := hrel
    by_cases hjl : j < l.length
    · have hji : (j : Int) < (l.length : Int) := by omega
      obtain ⟨g, o, rfl, hgl, hrow⟩ : ∃ g o, ao = some ⟨g, o, none⟩ ∧ g < w.heap.size ∧ RowAt w g o (Lib.byteCells l) := by
        rcases HV.out with ⟨_, h2, _⟩ | h
        · rw [h2] at hjl; simp at hjl
        · exact h
      have hgp : g ≠ p := Hne.out g o _ _ rfl
      obtain ⟨c, hc⟩ : ∃ c, l[j] = c := ⟨_, rfl⟩
      have hcell : wr.cell? ⟨g, o + j, none⟩ = some (.int .u8 (c.toNat : Int)) := by
        rw [← hc]; exact hg.cell (hrow j _ (byteCells_get l j hjl)) (by simpa using hgp)
      obtain ⟨st, hst⟩ : ∃ st, s.puts (l.take j) = st := ⟨_, rfl⟩
      have hnext : s.puts (l.take (j + 1)) = st.put c := by
        rw [List.take_succ_eq_append_getElem hjl, BkS.puts_snoc, hst, hc]
      have hsz := BkS.puts_size (l.take j) s hb
      rw [hst, List.length_take, Nat.min_eq_left hj] at hsz
      rw [hst] at hs
      obtain ⟨tail, hblk, htl, hH, hW⟩ := hs
      have hn := sCells_n hblk hH (by rw [List.length_append]; exact htl)
      have HS := Lib.hid hblk; have HG := Lib.hid hg; have HN := Lib.hid hnext
      clear hblk hg hnext hst hrow hc HV
      obtain ⟨H, buf, done⟩ := st
      simp only [BkS.size] at hsz hlen
      dsimp only at hn htl hH hW HS
      by_cases hfull : buf.length = 64
      · have hfi : (buf.length : Int) = 64 := by omega
        have ht0 : tail = [] := List.eq_nil_of_length_eq_zero (by omega)
        subst ht0
        rw [List.append_nil] at HS
        rw [hfull] at HS
        rw [hfi] at hn
        have cd := sCells_done HS.out hH hfull
        obtain ⟨d2, hd2⟩ : ∃ x, done + 64 = x := ⟨_, rfl⟩
        have hd2i : (done : Int) + 64 = (d2 : Int) := by omega
        have hdw : IntKind.u64.wrap (d2 : Int) = (d2 : Int) := by simp [IntKind.wrap, IntKind.bits, IntKind.signed]; omega
        have hd3 : d2 < 18446744073709551616 := by omega
        have HS' := HS.out
        go_wp2_with (first | (refine wpList_store_cell rfl 22 _ _ rfl p 73 rfl (.int .u64 (d2 : Int)) rfl rfl (sCells H buf 64 done) 206 HS' (by rw [sCells_length, hH, hfull]; omega) (by kernel_rfl) ?_))
        intro w2 g2 s2 b2
        rw [sCells_setD _ _ _ _ _ hH hfull] at b2
        have B2 := Lib.hid b2; have G2 := Lib.hid (Lib.grownBy_trans HG.out g2); have Hd2 := Lib.hid hd2
        clear b2 g2 s2 cd hd2 hd2i hdw HS' hn hcell
        go_wp2_with fail
        refine (block_ok H buf 64 d2 p false w2 B2.out hH hW hfull hd3 (HR.out.grown G2.out (by simp <;> omega)) hp).mono ?_
        rintro e w3 ⟨rfl, b3, g3⟩
        have B3 := Lib.hid b3; have G3 := Lib.hid (Lib.grownBy_trans G2.out g3)
        have hX : (blockL H buf d2 false).length = 8 := blockL_len _ _ _ _
        have hXw : Ws (blockL H buf d2 false) := blockL_ws hW _ _ hd3 _
        obtain ⟨X, hXe⟩ : ∃ X, blockL H buf d2 false = X := ⟨_, rfl⟩
        rw [hXe] at hX hXw B3
        have HX := Lib.hid hXe
        clear b3 g3 hXe B2 G2
        have HS' := B3.out
        go_wp2_with (first | (refine wpList_store_cell rfl 3 _ _ rfl p 72 rfl (.int .i64 ((0 : Nat) : Int)) rfl rfl (sCells X buf 64 d2) 206 HS' (by rw [sCells_length, hX, hfull]; omega) (by kernel_rfl) ?_))
        intro w4 g4 s4 b4
        replace b4 : Blk w4 p (sCells X buf 0 d2) 206 := by rw [← sCells_setN X buf 64 d2 0 hX hfull]; exact b4
        have hn := sCells_n b4 hX hfull
        have hn' : w4.cell? ⟨p, 72, none⟩ = some (.int .i64 0) := hn
        have B4 := Lib.hid b4; have G4 := Lib.hid (Lib.grownBy_trans G3.out g4)
        clear b4 g4 s4 HS' B3 G3 hn
        go_wp2_with fail
        go_still_tail 9, (by kernel_rfl)
        refine wpList_store_cell rfl 5 _ _ rfl p (8 + 0) rfl (.int .u8 (c.toNat : Int)) rfl rfl (sCells X buf 0 d2) 206 (show Blk w4.drew _ _ _ from B4.out) (by rw [sCells_length, hX, hfull]; omega) (by kernel_rfl) ?_
        intro w5 g5 s5 b5
        rw [sCells_setB _ _ _ _ 0 c hX (by omega)] at b5
        have hfs : (buf.set 0 c).length = 64 := by rw [List.length_set]; exact hfull
        have hn : w5.cell? ⟨p, 72, none⟩ = some (.int .i64 0) := sCells_n b5 hX hfs
        have HS' := b5
        have G5 := Lib.hid (Lib.grownBy_trans G4.out (undrew_grown g5))
        clear b5 g5 s5 hn' B4 G4
        go_wp2_with (first | (refine wpList_store_cell rfl 3 _ _ rfl p 72 rfl (.int .i64 ((1 : Nat) : Int)) rfl rfl (sCells X (buf.set 0 c) 0 d2) 206 HS' (by rw [sCells_length, hX, hfs]; omega) (by kernel_rfl) ?_))
        intro w6 g6 s6 b6
        replace b6 : Blk w6 p (sCells X (buf.set 0 c) 1 d2) 206 := by rw [← sCells_setN X (buf.set 0 c) 0 d2 1 hX hfs]; exact b6
        have B6 := Lib.hid b6; have G6 := Lib.hid (Lib.grownBy_trans G5.out g6)
        clear b6 g6 s6 HS' G5 hn
        go_wp2
        refine ⟨⟨j + 1, by omega, by go_num, ?_, G6.out⟩, by simp [intOf]; omega⟩
        have e : (BkS.mk H buf done).put c = ⟨X, [c], d2⟩ := by unfold BkS.put; rw [if_pos hfull, HX.out.symm, Hd2.out.symm]
        rw [HN.out, e]
        have e2 : buf.set 0 c = [c] ++ buf.drop 1 := by cases buf with
          | nil => simp at hfull
          | cons x t => rfl
        exact ⟨buf.drop 1, by rw [← e2]; exact B6.out, by simp [hfull], hX, hXw⟩
      · have hfi : (buf.length : Int) < 64 := by omega
        have hfn : ((buf.length : Int) == 64) = false := by simp; omega
        have hlb : (buf ++ tail).length = 64 := by rw [List.length_append]; exact htl
        obtain ⟨n, hnn⟩ : ∃ n, buf.length = n := ⟨_, rfl⟩
        rw [hnn] at hfi hfn hn HS
        have HNn := Lib.hid hnn; clear hnn
        go_wp2_with fail
        go_still_tail 9, (by kernel_rfl)
        refine wpList_store_cell rfl 5 _ _ rfl p (8 + n) rfl (.int .u8 (c.toNat : Int)) rfl rfl (sCells H (buf ++ tail) n done) 206 (show Blk wr.drew _ _ _ from HS.out) (by rw [sCells_length, hH, hlb]; omega) (by kernel_rfl) ?_
        intro w5 g5 s5 b5
        rw [sCells_setB _ _ _ _ n c hH (by omega)] at b5
        have hfs : ((buf ++ tail).set n c).length = 64 := by rw [List.length_set]; exact hlb
        have hn5 := sCells_n b5 hH hfs
        have HS' := b5
        have G5 := Lib.hid (Lib.grownBy_trans HG.out (undrew_grown g5))
        obtain ⟨n1, hn1⟩ : ∃ x, n + 1 = x := ⟨_, rfl⟩
        have hn1i : (n : Int) + 1 = (n1 : Int) := by omega
        have hnw : IntKind.i64.wrap (n1 : Int) = (n1 : Int) := by simp [IntKind.wrap, IntKind.bits, IntKind.signed]; omega
        clear b5 g5 s5 hn hcell
        go_wp2_with (first | (refine wpList_store_cell rfl 3 _ _ rfl p 72 rfl (.int .i64 (n1 : Int)) rfl rfl (sCells H ((buf ++ tail).set n c) n done) 206 HS' (by rw [sCells_length, hH, hfs]; omega) (by kernel_rfl) ?_))
        intro w6 g6 s6 b6
        rw [sCells_setN _ _ _ _ _ hH hfs] at b6
        have B6 := Lib.hid b6; have G6 := Lib.hid (Lib.grownBy_trans G5.out g6)
        clear b6 g6 s6 HS' G5 hn5
        go_wp2
        refine ⟨⟨j + 1, by omega, by go_num, ?_, G6.out⟩, by simp [intOf]; omega⟩
        have e : (BkS.mk H buf done).put c = ⟨H, buf ++ [c], done⟩ := by unfold BkS.put; rw [if_neg hfull]
        rw [HN.out, e]
        have hb2 := HNn.out
        cases tail with
        | nil => simp at htl; omega
        | cons t ts =>
          refine ⟨ts, ?_, by simp at htl ⊢; omega, hH, hW⟩
          have e2 : (buf ++ t :: ts).set n c = (buf ++ [c]) ++ ts := by
            rw [List.set_append_right _ _ (by omega), hb2, Nat.sub_self]; simp
          have e3 : (buf ++ [c]).length = n1 := by rw [List.length_append, hb2]; exact hn1
          show Blk w6 p (sCells H ((buf ++ [c]) ++ ts) (buf ++ [c]).length done) _
          rw [e3, ← e2]; exact B6.out
    · have ej : j = l.length := by omega
      rw [ej, List.take_length] at hs
      go_wp2_with fail
      go_end0
      exact ⟨rfl, hs, hg⟩

theorem bState : Tryz.prog.built 206 [(0, .agg (wCells rootsL).toArray)] = some (sCells rootsL (List.replicate 64 0) 0 0).toArray := by kernel_rfl

set_option maxHeartbeats 1600000 in
theorem New_ok (w : World) (hR : RowAt w 3 0 (wCells rootsL)) :
    Calls Tryz.prog 143 #[] w fun e w' => e = .returned (.pointer (some ⟨w.heap.size, 0, none⟩)) ∧ IsB w' w.heap.size BkS.start ∧ w.grownBy w' none := by
  have HR := Lib.hid hR; clear hR
  go_enter Tryz.func143, Tryz.ntmps143
  go_wp2_with (first | (refine wpList_load_part rfl 203 _ rfl 3 0 rfl (wCells rootsL) _ HR.out Tryz.underlying203 rfl size8 ?_) | (refine wpList_build_eq rfl 206 _ rfl [(0, .agg (wCells rootsL).toArray)] (by kernel_rfl) (sCells rootsL (List.replicate 64 0) 0 0) bState ?_) | (refine wpList_box_as rfl 206 _ rfl (sCells rootsL (List.replicate 64 0) 0 0) rfl ?_))
  intro w1 b1 g1 s1
  have c0 : w1.cell? ⟨w.heap.size, 0, none⟩ = some (.int .u32 1779033703) := sCells_word b1 rfl 0 (by omega)
  have ex : bits .xor .u32 1779033703 16842784 = 1795745351 := by kernel_rfl
  have B1 := Lib.hid b1; have G1 := Lib.hid g1; have S1 := Lib.hid s1
  clear b1 g1 s1
  go_wp2_with fail
  go_still_tail 9, (by kernel_rfl)
  refine wpList_store_cell rfl 177 _ _ rfl w.heap.size 0 rfl (.int .u32 ((1795745351 : Nat) : Int)) rfl rfl (sCells rootsL (List.replicate 64 0) 0 0) 206 (show Blk w1.drew _ _ _ from B1.out) (of_decide_eq_true (by kernel_rfl)) (by kernel_rfl) ?_
  intro w2 g2 s2 b2
  have b3 : Blk w2 w.heap.size (sCells startL ([] ++ List.replicate 64 0) 0 0) 206 := b2
  have B3 := Lib.hid b3; have G3 := Lib.hid (grown_new G1.out (undrew_grown g2) (Nat.le_refl _))
  clear b2 g2 s2 b3 c0 ex
  go_wp2
  go_ret
  exact ⟨rfl, ⟨List.replicate 64 0, B3.out, rfl, rfl, startL_ws⟩, G3.out⟩

theorem sizeState (cs : List Value) (h : cs.length = 74) : (Tryz.prog.info? 206).map (·.size) = some cs.length := by rw [h]; kernel_rfl
theorem sCells_clear (H : List Nat) (buf tail : List UInt8) (n d : Nat) (hH : H.length = 8) (hn : buf.length = n) (ht : n + tail.length = 64) :
    (sCells H (buf ++ tail) n d).take (8 + n) ++ List.replicate (64 - n) (.int .u8 0) ++ (sCells H (buf ++ tail) n d).drop (8 + n + (List.replicate (64 - n) (Value.int .u8 0)).length) = sCells H (padL buf) n d := by
  have hL : (wCells H ++ Lib.byteCells buf).length = 8 + n := by rw [List.length_append, wCells_length, Lib.byteCells_length, hH, hn]
  have hT : (Lib.byteCells tail).length = 64 - n := by rw [Lib.byteCells_length]; omega
  have e : ∀ b : List UInt8, sCells H (buf ++ b) n d = (wCells H ++ Lib.byteCells buf) ++ (Lib.byteCells b ++ [.int .i64 (n : Int), .int .u64 (d : Int)]) := fun b => by
    unfold sCells; simp [Lib.byteCells, List.append_assoc]
  unfold padL
  rw [e, e, List.length_replicate, hn]
  rw [List.take_append_of_le_length (by omega), List.take_of_length_le (by omega), List.drop_append, List.drop_eq_nil_of_le (by omega), List.nil_append, hL, Nat.add_sub_cancel_left, List.drop_append_of_le_length (by omega), List.drop_eq_nil_of_le (by omega), List.nil_append]
  simp [Lib.byteCells]
theorem outL_get (X : List Nat) (j : Nat) (h : j < 32) : ((outL X)[j]'(by simp [outL]; exact h)).toNat = gV X (j / 4) / 2 ^ (j % 4 * 8) % 256 := by
  have e : 256 ^ (j % 4) = 2 ^ (j % 4 * 8) := by rw [Nat.mul_comm, Nat.pow_mul]
  unfold outL
  rw [List.getElem_map, List.getElem_range, UInt8.toNat_ofNat', e]
def ZState : List Value := sCells (List.replicate 8 0) (List.replicate 64 0) 0 0
theorem ZState_info : (Tryz.prog.info? 206).map (fun i => i.zero.map (fun v => v.cells)) = some (some ZState.toArray) := by kernel_rfl
theorem sCells_one (H : List Nat) (B : List UInt8) (n done : Nat) : ∀ v ∈ sCells H B n done, v.oneCell' = true := by
  intro v hv
  rcases List.mem_append.1 hv with hv | hv
  · rcases List.mem_append.1 hv with hv | hv
    · exact wCells_one _ v hv
    · exact Lib.byteCells_one _ v hv
  · simp at hv; rcases hv with rfl | rfl <;> rfl

set_option maxHeartbeats 3200000 in
theorem Sum_ok (s : BkS) (p : Nat) (w : World) (h : IsB w p s) (hb : s.buf.length ≤ 64) (hlen : s.size < 4611686018427387904)
    (hR : RowAt w 3 0 (wCells rootsL)) (_hp : p ≠ 3) :
    Calls Tryz.prog 145 #[.pointer (some ⟨p, 0, none⟩)] w fun e w' => e = .returned (.agg (Lib.byteCells s.sum).toArray) ∧ w.grownBy w' none := by
  obtain ⟨tail, hS, htl, hH, hW⟩ := h
  obtain ⟨H, buf, done⟩ := s
  simp only [BkS.size] at hlen
  dsimp only at hS htl hH hW hb
  have hlb : (buf ++ tail).length = 64 := by rw [List.length_append]; exact htl
  have hg1 := World.block_lt_of_cell? w ⟨3, 0 + 0, none⟩ (hR 0 _ rfl)
  have HS := Lib.hid hS; have HR := Lib.hid hR
  clear hS hR
  go_enter Tryz.func145, Tryz.ntmps145
  go_wp2_with (refine wpList_alloc_as rfl 26 rfl ZH ZH_info ?_)
  intro w1 k1 k2 k3
  have S1 := Lib.hid (HS.out.grown k2 (by simp)); have R1 := Lib.hid (HR.out.grown k2 (by simp)); have O1 := Lib.hid k1; have G1 := Lib.hid k2
  have hlt := HS.out.lt
  obtain ⟨ob, hob⟩ : ∃ m, w.heap.size = m := ⟨_, rfl⟩
  rw [hob] at O1 hlt hg1 k3 ⊢
  have Hob := Lib.hid hob
  clear hob k1 k2 HS HR
  go_wp2_with (first | (refine wpList_load_part rfl 206 _ rfl p 0 rfl (sCells H (buf ++ tail) buf.length done) _ S1.out.row Tryz.underlying206 rfl (sizeState _ (by rw [sCells_length, hH, hlb])) ?_) | (refine wpList_alloc_as rfl 206 rfl ZState ZState_info ?_))
  intro w2 k1 k2 k4
  have R2 := Lib.hid (R1.out.grown k2 (by simp)); have O2 := Lib.hid (O1.out.grown k2 (by simp)); have T2 := Lib.hid k1; have G2 := Lib.hid (Lib.grownBy_trans G1.out k2)
  clear k1 k2 k4 k3 S1 R1 O1 G1
  go_wp2_with (refine wpList_store_whole rfl 206 _ _ rfl (ob + 1) rfl (sCells H (buf ++ tail) buf.length done) ZState 206 rfl T2.out (by rw [sCells_length, hH, hlb]; rfl) (sCells_one _ _ _ _) (sizeState _ (by rw [sCells_length, hH, hlb])) ?_)
  intro w3 k2 k3 k1
  have R3 := Lib.hid (R2.out.grown k2 (by simp <;> omega)); have O3 := Lib.hid (O2.out.grown k2 (by simp)); have T3 := Lib.hid k1; have G3 := Lib.hid (grown_new G2.out k2 (by rw [Hob.out]; omega))
  clear k1 k2 k3 R2 O2 T2 G2
  obtain ⟨n, hnn⟩ : ∃ n, buf.length = n := ⟨_, rfl⟩
  rw [hnn] at T3 hlen htl hb
  have cn := sCells_n T3.out hH hlb
  have cd := sCells_done T3.out hH hlb
  obtain ⟨d2, hd2⟩ : ∃ x, done + n = x := ⟨_, rfl⟩
  have hd2i : (done : Int) + (n : Int) = (d2 : Int) := by omega
  have hnw : IntKind.u64.wrap (n : Int) = (n : Int) := by simp [IntKind.wrap, IntKind.bits, IntKind.signed]; omega
  have hdw : IntKind.u64.wrap (d2 : Int) = (d2 : Int) := by simp [IntKind.wrap, IntKind.bits, IntKind.signed]; omega
  have hd3 : d2 < 18446744073709551616 := by omega
  have HN := Lib.hid hnn; have Hd2 := Lib.hid hd2; clear hnn hd2
  have T3' := T3.out
  go_wp2_with (first | (refine wpList_store_cell rfl 22 _ _ rfl (ob + 1) 73 rfl (.int .u64 (d2 : Int)) rfl rfl (sCells H (buf ++ tail) n done) 206 T3' (by rw [sCells_length, hH, hlb]; omega) (by kernel_rfl) ?_))
  intro w4 k2 k3 k1
  rw [sCells_setD _ _ _ _ _ hH hlb] at k1
  have R4 := Lib.hid (R3.out.grown k2 (by simp <;> omega)); have O4 := Lib.hid (O3.out.grown k2 (by simp)); have T4 := Lib.hid k1; have G4 := Lib.hid (grown_new G3.out k2 (by rw [Hob.out]; omega))
  clear k2 k3 cn cd hd2i hdw hnw T3' R3 O3 T3 G3
  have cn := sCells_n k1 hH hlb
  clear k1
  have hpad : (padL buf).length = 64 := by unfold padL; rw [List.length_append, List.length_replicate, HN.out]; omega
  have hz0 : ∀ (a : Option Addr) (c : Nat) (ty : TypeId) (w : World), (Builtin.clear_ #[27] ty #[.slice a 0 c]).run Tryz.prog w = .ok (.tuple #[]) w := fun a c ty w => by
    cases a <;> simp [Builtin.clear_, run_underlying Tryz.underlying27]
  go_upto_region 5 with (fail)
  go_cut [] from 6 to 22 (fun wx => Blk wx (ob + 1) (sCells H (padL buf) n d2) 206 ∧ w4.grownBy wx (some (ob + 1)))
  case first =>
    by_cases h64 : n = 64
    · have e : padL buf = buf ++ tail := by
        unfold padL
        rw [HN.out, h64, List.eq_nil_of_length_eq_zero (show tail.length = 0 by omega)]; rfl
      have T5 := Lib.hid (show Blk w4 (ob + 1) (sCells H (padL buf) n d2) 206 by rw [e]; exact T4.out)
      have h64i : (n : Int) = 64 := by omega
      rw [h64i] at cn
      go_wp2_with fail
      go_meet
      case rel => exact ⟨T5.out, ⟨rfl, rfl, rfl, Nat.le_refl _, fun _ _ _ => rfl⟩⟩
    · have hni : (n : Int) < 64 := by omega
      have hni2 : (n : Int) ≤ 64 := by omega
      have hcl : ∀ ty, (Builtin.clear_ #[27] ty #[.slice (some ⟨ob + 1, 8 + n, none⟩) (64 - n) (64 - n)]).run Tryz.prog w4 = .ok (.tuple #[]) (w4.setCells (ob + 1) (8 + n) (List.replicate (64 - n) (.int .u8 0))) := fun ty => by
        refine Lib.run_clear_slice w4 _ _ ty _ Tryz.underlying27 (fun w => by kernel_rfl) rfl rfl (ob + 1) (8 + n) _ _ (by omega) (fun j hj => ?_) (fun j hj => T4.out.frozen _)
        have hj2 : 8 + n + j < (sCells H (buf ++ tail) n d2).length := by rw [sCells_length, hH, hlb]; omega
        have := T4.out.row (8 + n + j) _ (List.getElem?_eq_getElem hj2)
        rw [Nat.zero_add] at this
        rw [this]; rfl
      have T5 : Blk (w4.setCells (ob + 1) (8 + n) (List.replicate (64 - n) (.int .u8 0))) (ob + 1) (sCells H (padL buf) n d2) 206 := by
        have := heap_setCells_same (List.replicate (64 - n) (.int .u8 0)) (8 + n) w4 _ T4.out (by rw [sCells_length, hH, hlb, List.length_replicate]; omega)
        rw [sCells_clear H buf tail n d2 hH HN.out htl] at this
        exact this
      have T5 := Lib.hid T5
      go_wp2_with fail
      go_meet
      case rel => exact ⟨T5.out, grown_setCells⟩
  case rest =>
    obtain ⟨t5, g5⟩ := hcut
    have R5 := Lib.hid (R4.out.grown g5 (by simp <;> omega)); have O5 := Lib.hid (O4.out.grown g5 (by simp)); have T5 := Lib.hid t5; have G5 := Lib.hid (grown_new G4.out g5 (by rw [Hob.out]; omega))
    clear t5 g5 R4 O4 T4 G4 cn hz0
    go_wp2_with fail
    refine (block_ok H (padL buf) n d2 (ob + 1) true wc T5.out hH hW hpad hd3 R5.out (by omega)).mono ?_
    rintro e w6 ⟨rfl, b6, g6⟩
    have hX : (blockL H (padL buf) d2 true).length = 8 := blockL_len _ _ _ _
    have hXw : Ws (blockL H (padL buf) d2 true) := blockL_ws hW _ _ hd3 _
    obtain ⟨X, hXe⟩ : ∃ X, blockL H (padL buf) d2 true = X := ⟨_, rfl⟩
    rw [hXe] at hX hXw b6
    have O6 := Lib.hid (O5.out.grown g6 (by simp)); have T6 := Lib.hid b6; have G6 := Lib.hid (grown_new G5.out g6 (by rw [Hob.out]; omega)); have HX := Lib.hid hXe
    clear b6 g6 hXe R5 O5 T5 G5
    go_wp2_with (refine wpList_alloc_as rfl 26 rfl ZH ZH_info ?_)
    intro w7 k1 k2 k3
    have O7 := Lib.hid (O6.out.grown k2 (by simp)); have T7 := Lib.hid (T6.out.grown k2 (by simp)); have G7 := Lib.hid (Lib.grownBy_trans G6.out k2)
    have hlt6 := T6.out.lt
    obtain ⟨xb, hxb⟩ : ∃ m, w6.heap.size = m := ⟨_, rfl⟩
    rw [hxb] at k1 hlt6 ⊢
    have L7 := Lib.hid k1
    clear k1 k2 k3 hxb O6 T6 G6
    go_wp2_with fail
    go_loopw [24] (fun i wr => ∃ j : Nat, j ≤ 32 ∧ i = .int .i64 j ∧ Blk wr xb (Lib.byteCells ((outL X).take j ++ List.replicate (32 - j) 0)) 26 ∧ w7.grownBy wr (some xb)) (fun i _ => 32 - (intOf i).toNat)
    case atStart => exact ⟨0, Nat.zero_le _, rfl, L7.out, ⟨rfl, rfl, rfl, Nat.le_refl _, fun _ _ _ => rfl⟩⟩
    case round =>
      obtain ⟨j, hj, rfl, hl, hg⟩ := hrel
      have holen : (outL X).length = 32 := by simp [outL]
      by_cases hj32 : j < 32
      · have hji : (j : Int) < 32 := by omega
        obtain ⟨q, hq⟩ : ∃ q, j / 4 = q := ⟨_, rfl⟩
        have hqi : (q : Int) < 8 := by omega
        have eq4 : IntKind.i64.wrap ((j : Int) / 4) = (q : Int) := by simp [IntKind.wrap, IntKind.bits, IntKind.signed]; omega
        obtain ⟨r, hr⟩ : ∃ r, j % 4 = r := ⟨_, rfl⟩
        have er : ((j : Int)).tmod 4 = (r : Int) := by rw [Int.tmod_eq_emod_of_nonneg (by omega)]; omega
        obtain ⟨sf, hsf⟩ : ∃ s, r * 8 = s := ⟨_, rfl⟩
        have hsf32 : (sf : Int) ≤ 32 := by omega
        have es : IntKind.i64.wrap ((r : Int) * 8) = (sf : Int) := by simp [IntKind.wrap, IntKind.bits, IntKind.signed]; omega
        obtain ⟨y, hy⟩ : ∃ y, gV X q / 2 ^ sf = y := ⟨_, rfl⟩
        have ey : (gV X q : Int) / 2 ^ sf = (y : Int) := by rw [← hy]; simp
        obtain ⟨z, hz⟩ : ∃ z, y % 256 = z := ⟨_, rfl⟩
        have ez : IntKind.u8.wrap (y : Int) = (z : Int) := by simp [IntKind.wrap, IntKind.bits, IntKind.signed]; omega
        have cx := sCells_word (T7.out.grown hg (by simp <;> omega)) hX q (by omega)
        have hjl : j < (outL X).length := by rw [holen]; exact hj32
        have hout : ((outL X)[j]'hjl).toNat = z := by rw [outL_get X j hj32, hq, hr, hsf, hy, hz]
        have hlen : ((outL X).take j ++ List.replicate (32 - j) (0 : UInt8)).length = 32 := by rw [List.length_append, List.length_take, List.length_replicate]; omega
        have Hl := Lib.hid hl; have Hg := Lib.hid hg; have Ho := Lib.hid hout
        have Hl' := hl
        clear hl hg hout hq hr hsf hy hz
        go_wp2_with (first | (refine wpList_store_cell rfl 5 _ _ rfl xb j rfl (.int .u8 (z : Int)) rfl rfl (Lib.byteCells ((outL X).take j ++ List.replicate (32 - j) 0)) 26 Hl' (by rw [Lib.byteCells_length, hlen]; exact hj32) (by kernel_rfl) ?_))
        intro w8 g8 s8 b8
        have e : (Lib.byteCells ((outL X).take j ++ List.replicate (32 - j) 0)).set j (.int .u8 (z : Int)) = Lib.byteCells ((outL X).take (j + 1) ++ List.replicate (32 - (j + 1)) 0) := by
          rw [← Ho.out]
          have h1 : (Lib.byteCells ((outL X).take j ++ List.replicate (32 - j) 0)).set j (.int .u8 (((outL X)[j]'hjl).toNat : Int)) = Lib.byteCells (((outL X).take j ++ List.replicate (32 - j) 0).set j ((outL X)[j]'hjl)) := by simp [Lib.byteCells, List.map_set]
          rw [h1, List.set_append_right _ _ (by rw [List.length_take]; omega), List.length_take, Nat.min_eq_left (by omega), Nat.sub_self, List.take_succ_eq_append_getElem hjl, show 32 - j = (32 - (j + 1)) + 1 by omega, List.replicate_succ, List.set_cons_zero, List.append_assoc]
          rfl
        rw [e] at b8
        have B8 := Lib.hid b8; have G8 := Lib.hid (Lib.grownBy_trans Hg.out g8)
        clear b8 g8 s8 e Hl'
        go_wp2
        exact ⟨⟨j + 1, by omega, by go_num, B8.out, G8.out⟩, by simp [intOf]; omega⟩
      · have ej : j = 32 := by omega
        rw [ej, List.take_of_length_le (by omega), Nat.sub_self, List.replicate_zero, List.append_nil] at hl
        have Hl := Lib.hid hl; have O8 := Lib.hid (O7.out.grown hg (by simp <;> omega)); have G8 := Lib.hid (grown_new G7.out hg (by rw [Hob.out]; omega))
        have hxl : (Lib.byteCells (outL X)).length = 32 := by rw [Lib.byteCells_length]; exact holen
        clear hl hg O7 T7 G7
        go_wp2_with (first | (refine wpList_load_part rfl 26 _ rfl xb 0 rfl (Lib.byteCells (outL X)) _ Hl.out.row Tryz.underlying26 rfl (sizeH _ hxl) ?_) | (refine wpList_store_whole rfl 26 _ _ rfl ob rfl (Lib.byteCells (outL X)) ZH 26 rfl O8.out (by rw [hxl]; rfl) (Lib.byteCells_one _) (sizeH _ hxl) ?_))
        intro w9 g9 s9 b9
        have B9 := Lib.hid b9; have G9 := Lib.hid (grown_new G8.out g9 (by rw [Hob.out]; omega))
        clear b9 g9 s9
        go_wp2
        refine bodyPost_ret (results_cell_one rfl _ _ ⟨ob, 0, none⟩ _ rfl (run_loadVar_part _ _ _ 26 (Lib.byteCells (outL X)) _ B9.out.row Tryz.underlying26 rfl (sizeH _ hxl))) rfl ?_
        refine ⟨?_, G9.out⟩
        have e : (BkS.mk H buf done).sum = outL X := by
          unfold BkS.sum
          show outL (blockL H (padL buf) (done + buf.length) true) = _
          rw [HN.out, Hd2.out, HX.out]
        rw [e]

/-- a slice of byte slices -/
def RdL (w : World) (v : Value) (ls : List (List UInt8)) : Prop :=
  ∃ ao c cs, v = .slice ao ls.length c ∧ ls.length ≤ c ∧ c ≤ maxLen ∧ cs.length = ls.length ∧ (∀ (i : Nat) l, ls[i]? = some l → ∃ u, cs[i]? = some u ∧ RdB w u l) ∧
    ((ao = none ∧ ls = []) ∨ ∃ g o, ao = some ⟨g, o, none⟩ ∧ g < w.heap.size ∧ RowAt w g o cs)
theorem IsB.grown {w w' : World} {p : Nat} {s : BkS} {row : Option Nat} (h : IsB w p s) (hg : w.grownBy w' row) (hne : some p ≠ row) : IsB w' p s := by
  obtain ⟨t, h1, h2⟩ := h
  exact ⟨t, h1.grown hg hne, h2⟩
theorem start_size : BkS.start.size = 0 := rfl
theorem start_le : BkS.start.buf.length ≤ 64 := Nat.zero_le _
theorem start_one {tag : UInt8} : BkS.start.size + [tag].length < 4611686018427387904 := by rw [start_size]; show 0 + 1 < _; omega
theorem RdB.slice_ne {w : World} {v : Value} {l : List UInt8} (h : RdB w v l) {p : Nat} (hp : w.heap.size ≤ p) : ∀ g o n c, v = .slice (some ⟨g, o, none⟩) n c → g ≠ p := by
  intro g o n c e
  obtain ⟨ao, cp, rfl, _, _, h⟩ := h
  injection e with e1 e2 e3
  rcases h with ⟨rfl, _⟩ | ⟨g', o', rfl, hg, _⟩
  · cases e1
  · injection e1 with e1; injection e1 with e1; omega

set_option maxHeartbeats 1600000 in
theorem Join_ok (tag : UInt8) (ls : List (List UInt8)) (v : Value) (w : World) (hv : RdL w v ls) (hlen : ls.flatten.length < 4611686018427387900)
    (hR : RowAt w 3 0 (wCells rootsL)) :
    Calls Tryz.prog 104 #[.int .u8 (tag.toNat : Int), v] w fun e w' => e = .returned (.agg (Lib.byteCells (blake (tag :: ls.flatten))).toArray) ∧ w.grownBy w' none := by
  obtain ⟨ao, cp, cs, rfl, hc1, hc2, hcl, hcs, hv⟩ := hv
  have hg1 := World.block_lt_of_cell? w ⟨3, 0 + 0, none⟩ (hR 0 _ rfl)
  have hjm : ls.length ≤ 9223372036854775807 := Nat.le_trans hc1 hc2
  have HV := Lib.hid hv; have HC := Lib.hid hcs; have HR := Lib.hid hR
  clear hv hcs hR
  go_enter Tryz.func104, Tryz.ntmps104
  go_wp2_with (refine wpList_alloc_as rfl 26 rfl ZH ZH_info ?_)
  intro w1 k1 k2 k3
  have O1 := Lib.hid k1; have G1 := Lib.hid k2; have S1 := Lib.hid k3
  clear k1 k2 k3
  go_wp2_with fail
  refine (New_ok w1 (HR.out.grown G1.out (by simp))).mono ?_
  rintro e w2 ⟨rfl, b2, g2⟩
  have hs1 := S1.out
  obtain ⟨ob, hob⟩ : ∃ m, w.heap.size = m := ⟨_, rfl⟩
  rw [hob] at hs1 O1 ⊢
  rw [hs1] at b2 ⊢
  have Hob := Lib.hid hob
  have O2 := Lib.hid (O1.out.grown g2 (by simp)); have B2 := Lib.hid b2; have G2 := Lib.hid (Lib.grownBy_trans G1.out g2)
  rw [hob] at hg1
  clear hob b2 g2 O1 S1 hs1
  go_wp2_with fail
  obtain ⟨w3, hw3⟩ : ∃ w3, w2.alloc (.cells #[.int .u8 (tag.toNat : Int)] 5) = w3 := ⟨_, rfl⟩
  have r3 : RdB w3 (.slice (some ⟨w2.heap.size, 0, none⟩) 1 1) [tag] := by
    rw [← hw3]
    exact ⟨_, 1, rfl, Nat.le_refl _, by simp [maxLen], Or.inr ⟨_, 0, rfl, by simp, RowAt_box w2 [.int .u8 (tag.toNat : Int)] _⟩⟩
  have hb3 : w2.grownBy w3 none := hw3 ▸ World.grownBy_alloc w2 _ none
  rw [hw3]
  have hlt2 : ob + 1 < w2.heap.size := (B2.out.elim fun _ h => h.1.lt)
  have O3 := Lib.hid (O2.out.grown hb3 (by simp)); have B3 := Lib.hid (B2.out.grown hb3 (by simp)); have G3 := Lib.hid (Lib.grownBy_trans G2.out hb3)
  clear hw3 hb3 O2 B2 G2
  refine (Write_ok BkS.start [tag] (ob + 1) _ w3 B3.out r3 (by intro g o n c e; injection e with e1; injection e1 with e1; injection e1 with e1; omega) (HR.out.grown G3.out (by simp)) (by omega) start_one start_le).mono ?_
  rintro e w4 ⟨rfl, b4, g4⟩
  have O4 := Lib.hid (O3.out.grown g4 (by simp)); have B4 := Lib.hid b4; have G4 := Lib.hid (grown_new G3.out g4 (by rw [Hob.out]; omega))
  clear b4 g4 r3 O3 B3 G3 hlt2
  go_wp2_with fail
  go_loopw [15] (fun i wr => ∃ j : Nat, j ≤ ls.length ∧ i = .int .i64 j ∧ IsB wr (ob + 1) (BkS.start.puts (tag :: (ls.take j).flatten)) ∧ Blk wr ob ZH 26 ∧ w.grownBy wr none) (fun i _ => ls.length - (intOf i).toNat)
  case atStart => exact ⟨0, Nat.zero_le _, rfl, by rw [List.take_zero, List.flatten_nil]; exact B4.out, O4.out, G4.out⟩
  case round =>
    obtain ⟨j, hj, rfl, hs, ho, hg⟩ := hrel
    have HS := Lib.hid hs; have HO := Lib.hid ho; have HG := Lib.hid hg
    clear hs ho hg
    have hcat : ∀ k, (ls.take k).flatten.length ≤ ls.flatten.length := fun k => by
      have := congrArg (fun x => x.flatten.length) (List.take_append_drop k ls)
      simp only [List.flatten_append, List.length_append] at this
      omega
    have hsz := BkS.puts_size (tag :: (ls.take j).flatten) BkS.start start_le
    rw [start_size, List.length_cons] at hsz
    have hcj := hcat j
    by_cases hjl : j < ls.length
    · have hji : (j : Int) < (ls.length : Int) := by omega
      obtain ⟨g, o, rfl, hgl, hrow⟩ : ∃ g o, ao = some ⟨g, o, none⟩ ∧ g < w.heap.size ∧ RowAt w g o cs := by
        rcases HV.out with ⟨_, h2⟩ | h
        · rw [h2] at hjl; simp at hjl
        · exact h
      obtain ⟨l, hl⟩ : ∃ l, ls[j] = l := ⟨_, rfl⟩
      obtain ⟨u, hu, hru⟩ := HC.out j l (by rw [← hl]; exact List.getElem?_eq_getElem hjl)
      have hcell : wr.cell? ⟨g, o + j, none⟩ = some u := HG.out.cell (hrow j u hu) (by simp)
      have hst : (ls.take (j + 1)).flatten = (ls.take j).flatten ++ l := by rw [List.take_succ_eq_append_getElem hjl, hl]; simp
      have hc1' := hcat (j + 1)
      rw [hst, List.length_append] at hc1'
      have hnxt : BkS.start.puts (tag :: (ls.take (j + 1)).flatten) = (BkS.start.puts (tag :: (ls.take j).flatten)).puts l := by
        rw [hst, ← List.cons_append, BkS.puts_append]
      have hne := hru.slice_ne (p := ob + 1) (by rw [Hob.out]; omega)
      have Hn := Lib.hid hnxt; have Hru := Lib.hid hru; have Hne := Lib.hid hne
      clear hrow hl hu hru hst hnxt hne hcat
      go_wp2_with fail
      refine (Write_ok _ l (ob + 1) u wr HS.out (Hru.out.grown HG.out) Hne.out (HR.out.grown HG.out (by simp)) (by omega) (by omega) hsz.2).mono ?_
      rintro e w5 ⟨rfl, b5, g5⟩
      have B5 := Lib.hid b5; have G5 := Lib.hid (grown_new HG.out g5 (by rw [Hob.out]; omega)); have O5 := Lib.hid (HO.out.grown g5 (by simp))
      clear b5 g5
      go_wp2
      exact ⟨⟨j + 1, by omega, by go_num, by rw [Hn.out]; exact B5.out, O5.out, G5.out⟩, by simp [intOf]; omega⟩
    · have ej : j = ls.length := by omega
      rw [ej, List.take_length] at HS hsz
      clear hcat hcj
      go_wp2_with fail
      refine (Sum_ok _ (ob + 1) wr HS.out hsz.2 (by omega) (HR.out.grown HG.out (by simp)) (by omega)).mono ?_
      rintro e w5 ⟨rfl, g5⟩
      have O5 := Lib.hid (HO.out.grown g5 (by simp)); have G5 := Lib.hid (Lib.grownBy_trans HG.out g5)
      rw [← blake_puts]
      have hbl := blake_len (tag :: ls.flatten)
      obtain ⟨X, hX⟩ : ∃ X, blake (tag :: ls.flatten) = X := ⟨_, rfl⟩
      rw [hX] at hbl ⊢
      have hxl : (Lib.byteCells X).length = 32 := by rw [Lib.byteCells_length]; exact hbl
      have HX := Lib.hid hX
      clear g5 hX
      go_wp2_with (first | (refine wpList_store_whole rfl 26 _ _ rfl ob rfl (Lib.byteCells X) ZH 26 rfl O5.out (by rw [hxl]; rfl) (Lib.byteCells_one _) (sizeH _ hxl) ?_))
      intro w9 g9 s9 b9
      have B9 := Lib.hid b9; have G9 := Lib.hid (grown_new G5.out g9 (by rw [Hob.out]; omega))
      clear b9 g9 s9
      go_wp2
      refine bodyPost_ret (results_cell_one rfl _ _ ⟨ob, 0, none⟩ _ rfl (run_loadVar_part _ _ _ 26 (Lib.byteCells X) _ B9.out.row Tryz.underlying26 rfl (sizeH _ hxl))) rfl ?_
      rw [HX.out]
      exact ⟨rfl, G9.out⟩

end Go.Proofs.YtcbkehnlgpcelaaGreatDoor
