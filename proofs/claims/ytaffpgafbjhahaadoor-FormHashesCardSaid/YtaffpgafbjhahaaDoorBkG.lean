/- Walks of the digest's small steps: a figure, a turn. Walk of half a G. Walk of a G. -/
import Derived.Test.YtaffpgafbjhahaaDoorBk
import Derived.Test.YtaffpgafbjhahaaDoorForms
import Derived.StillTailTactics
import Derived.Test.YtaffpgafbjhahaaDoorDecL
import Derived.Test.YtaffpgafbjhahaaDoorBuild
import Derived.Deep.Cut
import Derived.Deep.CutRange
namespace Go.Proofs.YtaffpgafbjhahaaDoor
open Go.RowKit
set_option maxRecDepth 100000

set_option maxHeartbeats 400000 in
theorem figure_ok (c : Nat) (w : World) (h : figOk c = true) :
    Calls Tryd.prog 159 #[.int .u8 (c : Int)] w fun e w' => e = .returned (.int .i64 (figN c : Int)) ∧ w' = w := by
  unfold figN
  simp [figOk] at h
  have hc : c < 256 := by omega
  by_cases h97 : 97 ≤ c
  · rw [if_pos h97]
    go_enter Tryd.func159, Tryd.ntmps159
    go_wp2
    go_ret
    exact ⟨by simp; omega, rfl⟩
  · rw [if_neg h97]
    go_enter Tryd.func159, Tryd.ntmps159
    go_wp2
    go_ret
    exact ⟨by simp; omega, rfl⟩

theorem ord_of (L : List UInt8) (hL : L.map UInt8.toNat = ordersL) (k : Nat) (h : k < (⟨L.toArray⟩ : ByteArray).size) : ((⟨L.toArray⟩ : ByteArray)[k]'h).toNat = ordC k := by
  have hlt : k < L.length := by simpa [ByteArray.size] using h
  show ((L.toArray)[k]'(by simpa using hlt)).toNat = _
  unfold ordC
  rw [← hL, List.getD_eq_getElem?_getD, List.getElem?_map, List.getElem?_eq_getElem hlt]
  simp
theorem figure_at (x : UInt8) (k : Nat) (w : World) (h : x.toNat = ordC k) :
    Calls Tryd.prog 159 #[.int .u8 (x.toNat : Int)] w fun e w' => e = .returned (.int .i64 (sg k : Int)) ∧ w' = w := by
  rw [h]; exact figure_ok _ w (ordC_ok k)
theorem ror_16 (x : Nat) (h : x < 4294967296) : bits .or .u32 ((x : Int) * 65536 % 4294967296) ((x : Int) / 65536) = (ror x 16 : Int) := by
  have e : ror x 16 = (x * 65536 % 4294967296 ||| x / 65536) := rfl
  have := u32_or_nat (x * 65536 % 4294967296) (x / 65536) (Nat.mod_lt _ (by omega)) (by omega)
  rw [e, ← this]
  rfl
set_option maxHeartbeats 400000 in
theorem rotate_16 (x : Nat) (w : World) (h : x < 4294967296) :
    Calls Tryd.prog 160 #[.int .u32 (x : Int), .int .i64 (-16)] w fun e w' => e = .returned (.int .u32 (ror x 16 : Int)) ∧ w' = w := by
  have hk : bits .and .u64 (IntKind.u64.wrap (-16)) 31 = 16 := by kernel_rfl
  go_enter Tryd.func160, Tryd.ntmps160
  go_wp2
  rw [ror_16 x h]
  go_ret
  exact ⟨rfl, rfl⟩
theorem ror_12 (x : Nat) (h : x < 4294967296) : bits .or .u32 ((x : Int) * 1048576 % 4294967296) ((x : Int) / 4096) = (ror x 12 : Int) := by
  have e : ror x 12 = (x * 1048576 % 4294967296 ||| x / 4096) := rfl
  have := u32_or_nat (x * 1048576 % 4294967296) (x / 4096) (Nat.mod_lt _ (by omega)) (by omega)
  rw [e, ← this]
  rfl
set_option maxHeartbeats 400000 in
theorem rotate_12 (x : Nat) (w : World) (h : x < 4294967296) :
    Calls Tryd.prog 160 #[.int .u32 (x : Int), .int .i64 (-12)] w fun e w' => e = .returned (.int .u32 (ror x 12 : Int)) ∧ w' = w := by
  have hk : bits .and .u64 (IntKind.u64.wrap (-12)) 31 = 20 := by kernel_rfl
  go_enter Tryd.func160, Tryd.ntmps160
  go_wp2
  rw [ror_12 x h]
  go_ret
  exact ⟨rfl, rfl⟩
theorem ror_8 (x : Nat) (h : x < 4294967296) : bits .or .u32 ((x : Int) * 16777216 % 4294967296) ((x : Int) / 256) = (ror x 8 : Int) := by
  have e : ror x 8 = (x * 16777216 % 4294967296 ||| x / 256) := rfl
  have := u32_or_nat (x * 16777216 % 4294967296) (x / 256) (Nat.mod_lt _ (by omega)) (by omega)
  rw [e, ← this]
  rfl
set_option maxHeartbeats 400000 in
theorem rotate_8 (x : Nat) (w : World) (h : x < 4294967296) :
    Calls Tryd.prog 160 #[.int .u32 (x : Int), .int .i64 (-8)] w fun e w' => e = .returned (.int .u32 (ror x 8 : Int)) ∧ w' = w := by
  have hk : bits .and .u64 (IntKind.u64.wrap (-8)) 31 = 24 := by kernel_rfl
  go_enter Tryd.func160, Tryd.ntmps160
  go_wp2
  rw [ror_8 x h]
  go_ret
  exact ⟨rfl, rfl⟩
theorem ror_7 (x : Nat) (h : x < 4294967296) : bits .or .u32 ((x : Int) * 33554432 % 4294967296) ((x : Int) / 128) = (ror x 7 : Int) := by
  have e : ror x 7 = (x * 33554432 % 4294967296 ||| x / 128) := rfl
  have := u32_or_nat (x * 33554432 % 4294967296) (x / 128) (Nat.mod_lt _ (by omega)) (by omega)
  rw [e, ← this]
  rfl
set_option maxHeartbeats 400000 in
theorem rotate_7 (x : Nat) (w : World) (h : x < 4294967296) :
    Calls Tryd.prog 160 #[.int .u32 (x : Int), .int .i64 (-7)] w fun e w' => e = .returned (.int .u32 (ror x 7 : Int)) ∧ w' = w := by
  have hk : bits .and .u64 (IntKind.u64.wrap (-7)) 31 = 25 := by kernel_rfl
  go_enter Tryd.func160, Tryd.ntmps160
  go_wp2
  rw [ror_7 x h]
  go_ret
  exact ⟨rfl, rfl⟩

theorem wCells_at {w : World} {g : Nat} {V : List Nat} {T : TypeId} (h : Blk w g (wCells V) T) (i : Nat) (hi : i < V.length) : w.cell? ⟨g, i, none⟩ = some (.int .u32 (gV V i : Int)) := by
  have := h.row i _ (wCells_get V i hi)
  rwa [Nat.zero_add] at this
theorem wrap_add3 (p q r : Nat) : IntKind.u32.wrap ((p : Int) + IntKind.u32.wrap ((q : Int) + (r : Int))) = (((p + (q + r)) % 4294967296 : Nat) : Int) := by
  rw [IntKind.wrap_u32', IntKind.wrap_u32']; omega
theorem wrap_add2 (p q : Nat) : IntKind.u32.wrap ((p : Int) + (q : Int)) = (((p + (q + 0)) % 4294967296 : Nat) : Int) := by
  rw [IntKind.wrap_u32']; omega

theorem wrap_neg (x : Nat) (h : x < 32) : IntKind.i64.wrap (-(x : Int)) = -(x : Int) := by
  simp [IntKind.wrap, IntKind.bits, IntKind.signed]; omega
set_option maxHeartbeats 800000 in
theorem half_ok (V M : List Nat) (vb mb pa pb pc pd a b c d k x y : Nat) (w : World)
    (hV : Blk w vb (wCells V) 209) (hM : Blk w mb (wCells M) 209) (hvl : V.length = 16) (hml : M.length = 16) (hvw : Ws V)
    (ha : One w pa (.int .i64 a)) (hb : One w pb (.int .i64 b)) (hc : One w pc (.int .i64 c)) (hd : One w pd (.int .i64 d))
    (na : pa ≠ vb) (nb : pb ≠ vb) (nc : pc ≠ vb) (nd : pd ≠ vb)
    (la : a < 16) (lb : b < 16) (lc : c < 16) (ld : d < 16) (lk : k < 160) (lx : x < 32) (ly : y < 32)
    (rx : ∀ (z : Nat) (w : World), z < 4294967296 → Calls Tryd.prog 160 #[.int .u32 (z : Int), .int .i64 (-(x : Int))] w fun e w' => e = .returned (.int .u32 (ror z x : Int)) ∧ w' = w)
    (ry : ∀ (z : Nat) (w : World), z < 4294967296 → Calls Tryd.prog 160 #[.int .u32 (z : Int), .int .i64 (-(y : Int))] w fun e w' => e = .returned (.int .u32 (ror z y : Int)) ∧ w' = w) :
    Calls Tryd.prog 158 #[.int .i64 k, .int .i64 x, .int .i64 y, .pointer (some ⟨vb, 0, none⟩), .pointer (some ⟨pa, 0, none⟩), .pointer (some ⟨pb, 0, none⟩), .pointer (some ⟨mb, 0, none⟩), .pointer (some ⟨pd, 0, none⟩), .pointer (some ⟨pc, 0, none⟩)] w fun e w' =>
      e = .returned (.tuple #[]) ∧ Blk w' vb (wCells (halfL V a b c d (gV M (sg k)) x y)) 209 ∧ w.grownBy w' (some vb) := by
  have ja : (a : Int) < 16 := by omega
  have jb : (b : Int) < 16 := by omega
  have jc : (c : Int) < 16 := by omega
  have jd : (d : Int) < 16 := by omega
  have jk : (k : Int) < 160 := by omega
  have js : (sg k : Int) < 16 := by have := sg_lt k; omega
  have wx : IntKind.i64.wrap (-(x : Int)) = -(x : Int) := wrap_neg x lx
  have wy : IntKind.i64.wrap (-(y : Int)) = -(y : Int) := wrap_neg y ly
  have HA := Lib.hid ha; have HB := Lib.hid hb; have HC := Lib.hid hc; have HD := Lib.hid hd; have HV := Lib.hid hV
  obtain ⟨ca, _⟩ := ha
  obtain ⟨cb, _⟩ := hb
  have va := wCells_at hV a (by omega)
  have vb' := wCells_at hV b (by omega)
  have ms := wCells_at hM (sg k) (by have := sg_lt k; omega)
  clear hc hd hV
  go_enter Tryd.func158, Tryd.ntmps158
  go_wp2_with fail
  go_still_tail 14, (by kernel_rfl)
  still_call (figure_at _ k _ (ord_of _ (by kernel_rfl) k _))
  repeat still_step
  refine wpStill_nil ?_
  refine wpList_store_cell rfl 198 _ _ rfl vb a rfl (.int .u32 (((gV V a + (gV V b + gV M (sg k))) % 4294967296 : Nat) : Int)) (congrArg (Value.int .u32) (wrap_add3 _ _ _)) rfl (wCells V) 209 (show Blk w.drew vb _ _ from HV.out) (by rw [wCells_length]; omega) (by kernel_rfl) ?_
  intro w2 g2 s2 b2
  rw [← wCells_set] at b2
  have b3 : Blk w2 vb (wCells (half1 V a b (gV M (sg k)))) 209 := b2
  have g3 := undrew_grown g2
  clear b2 g2 s2 ca cb va vb' ms
  obtain ⟨V1, hV1⟩ : ∃ V1, half1 V a b (gV M (sg k)) = V1 := ⟨_, rfl⟩
  rw [hV1] at b3
  have l1 : V1.length = 16 := by rw [← hV1, half1_len]; exact hvl
  have x1 : Ws V1 := hV1 ▸ half1_ws hvw _ _ _
  have E1 := Lib.hid hV1; clear hV1
  have HV2 := Lib.hid b3; have G := Lib.hid g3
  have cd := (HD.out.grown g3 (by simpa using nd)).1
  have ca := (HA.out.grown g3 (by simpa using na)).1
  have va := wCells_at b3 a (by omega)
  have vd := wCells_at b3 d (by omega)
  have ex := u32_xor_nat _ _ (x1.get d) (x1.get a)
  clear b3 g3
  go_wp2_with fail
  go_still_tail 12, (by kernel_rfl)
  still_call (rx _ _ (xor_lt (x1.get d) (x1.get a)))
  repeat still_step
  refine wpStill_nil ?_
  refine wpList_store_cell rfl 198 _ _ rfl vb d rfl (.int .u32 (ror (gV V1 d ^^^ gV V1 a) x : Int)) rfl rfl (wCells V1) 209 (show Blk w2.drew vb _ _ from HV2.out) (by rw [wCells_length]; omega) (by kernel_rfl) ?_
  intro w3 g2 s2 b2
  rw [← wCells_set] at b2
  have b3 : Blk w3 vb (wCells (half2 V1 a d x)) 209 := b2
  have g3 := Lib.grownBy_trans G.out (undrew_grown g2)
  clear b2 g2 s2 ca cd va vd ex HV2 G
  obtain ⟨V2, hV2⟩ : ∃ V2, half2 V1 a d x = V2 := ⟨_, rfl⟩
  rw [hV2] at b3
  have l2 : V2.length = 16 := by rw [← hV2, half2_len]; exact l1
  have x2 : Ws V2 := hV2 ▸ half2_ws x1 _ _ _
  have E2 := Lib.hid hV2; clear hV2
  have HV3 := Lib.hid b3; have G := Lib.hid g3
  have cc := (HC.out.grown g3 (by simpa using nc)).1
  have cd := (HD.out.grown g3 (by simpa using nd)).1
  have vc := wCells_at b3 c (by omega)
  have vd := wCells_at b3 d (by omega)
  clear b3 g3
  go_wp2_with fail
  go_still_tail 8, (by kernel_rfl)
  refine wpList_store_cell rfl 198 _ _ rfl vb c rfl (.int .u32 (((gV V2 c + (gV V2 d + 0)) % 4294967296 : Nat) : Int)) (congrArg (Value.int .u32) (wrap_add2 _ _)) rfl (wCells V2) 209 (show Blk w3.drew vb _ _ from HV3.out) (by rw [wCells_length]; omega) (by kernel_rfl) ?_
  intro w4 g2 s2 b2
  rw [← wCells_set] at b2
  have b3 : Blk w4 vb (wCells (half1 V2 c d 0)) 209 := b2
  have g3 := Lib.grownBy_trans G.out (undrew_grown g2)
  clear b2 g2 s2 cc cd vc vd HV3 G
  obtain ⟨V3, hV3⟩ : ∃ V3, half1 V2 c d 0 = V3 := ⟨_, rfl⟩
  rw [hV3] at b3
  have l3 : V3.length = 16 := by rw [← hV3, half1_len]; exact l2
  have x3 : Ws V3 := hV3 ▸ half1_ws x2 _ _ _
  have E3 := Lib.hid hV3; clear hV3
  have HV4 := Lib.hid b3; have G := Lib.hid g3
  have cc := (HC.out.grown g3 (by simpa using nc)).1
  have cb := (HB.out.grown g3 (by simpa using nb)).1
  have vc := wCells_at b3 c (by omega)
  have vb' := wCells_at b3 b (by omega)
  have ex := u32_xor_nat _ _ (x3.get b) (x3.get c)
  clear b3 g3
  go_wp2_with fail
  go_still_tail 12, (by kernel_rfl)
  still_call (ry _ _ (xor_lt (x3.get b) (x3.get c)))
  repeat still_step
  refine wpStill_nil ?_
  refine wpList_store_cell rfl 198 _ _ rfl vb b rfl (.int .u32 (ror (gV V3 b ^^^ gV V3 c) y : Int)) rfl rfl (wCells V3) 209 (show Blk w4.drew vb _ _ from HV4.out) (by rw [wCells_length]; omega) (by kernel_rfl) ?_
  intro w5 g2 s2 b2
  rw [← wCells_set] at b2
  have b3 : Blk w5 vb (wCells (half2 V3 c b y)) 209 := b2
  have g3 := Lib.grownBy_trans G.out (undrew_grown g2)
  clear b2 g2 s2 cc cb vc vb' ex HV4 G
  have B := Lib.hid b3; have G := Lib.hid g3; clear b3 g3
  go_wp2
  go_end0
  refine ⟨rfl, ?_, G.out⟩
  have e : halfL V a b c d (gV M (sg k)) x y = half2 V3 c b y := by unfold halfL; rw [E1.out, E2.out, E3.out]
  rw [e]; exact B.out

/-- the captured cells of a half G -/
theorem half_16 (V M : List Nat) (vb mb pa pb pc pd a b c d k : Nat) (w : World)
    (hV : Blk w vb (wCells V) 209) (hM : Blk w mb (wCells M) 209) (hvl : V.length = 16) (hml : M.length = 16) (hvw : Ws V)
    (ha : One w pa (.int .i64 a)) (hb : One w pb (.int .i64 b)) (hc : One w pc (.int .i64 c)) (hd : One w pd (.int .i64 d))
    (na : pa ≠ vb) (nb : pb ≠ vb) (nc : pc ≠ vb) (nd : pd ≠ vb)
    (la : a < 16) (lb : b < 16) (lc : c < 16) (ld : d < 16) (lk : k < 160) :
    Calls Tryd.prog 158 #[.int .i64 k, .int .i64 16, .int .i64 12, .pointer (some ⟨vb, 0, none⟩), .pointer (some ⟨pa, 0, none⟩), .pointer (some ⟨pb, 0, none⟩), .pointer (some ⟨mb, 0, none⟩), .pointer (some ⟨pd, 0, none⟩), .pointer (some ⟨pc, 0, none⟩)] w fun e w' =>
      e = .returned (.tuple #[]) ∧ Blk w' vb (wCells (halfL V a b c d (gV M (sg k)) 16 12)) 209 ∧ w.grownBy w' (some vb) :=
  half_ok V M vb mb pa pb pc pd a b c d k 16 12 w hV hM hvl hml hvw ha hb hc hd na nb nc nd la lb lc ld lk (by omega) (by omega) (fun z w h => rotate_16 z w h) (fun z w h => rotate_12 z w h)
theorem half_8 (V M : List Nat) (vb mb pa pb pc pd a b c d k : Nat) (w : World)
    (hV : Blk w vb (wCells V) 209) (hM : Blk w mb (wCells M) 209) (hvl : V.length = 16) (hml : M.length = 16) (hvw : Ws V)
    (ha : One w pa (.int .i64 a)) (hb : One w pb (.int .i64 b)) (hc : One w pc (.int .i64 c)) (hd : One w pd (.int .i64 d))
    (na : pa ≠ vb) (nb : pb ≠ vb) (nc : pc ≠ vb) (nd : pd ≠ vb)
    (la : a < 16) (lb : b < 16) (lc : c < 16) (ld : d < 16) (lk : k < 160) :
    Calls Tryd.prog 158 #[.int .i64 k, .int .i64 8, .int .i64 7, .pointer (some ⟨vb, 0, none⟩), .pointer (some ⟨pa, 0, none⟩), .pointer (some ⟨pb, 0, none⟩), .pointer (some ⟨mb, 0, none⟩), .pointer (some ⟨pd, 0, none⟩), .pointer (some ⟨pc, 0, none⟩)] w fun e w' =>
      e = .returned (.tuple #[]) ∧ Blk w' vb (wCells (halfL V a b c d (gV M (sg k)) 8 7)) 209 ∧ w.grownBy w' (some vb) :=
  half_ok V M vb mb pa pb pc pd a b c d k 8 7 w hV hM hvl hml hvw ha hb hc hd na nb nc nd la lb lc ld lk (by omega) (by omega) (fun z w h => rotate_8 z w h) (fun z w h => rotate_7 z w h)

theorem four_new (w : World) (x y z u : Value) (T : TypeId) : ∃ W, (((w.alloc (.cells #[x] T)).alloc (.cells #[y] T)).alloc (.cells #[z] T)).alloc (.cells #[u] T) = W ∧ One W w.heap.size x ∧ One W (w.heap.size + 1) y ∧ One W (w.heap.size + 2) z ∧ One W (w.heap.size + 3) u ∧ w.grownBy W none := by
  obtain ⟨W0, h0, x0, y0, s0, b0⟩ := two_new w x y T T
  obtain ⟨W1, h1, z1, u1, s1, b1⟩ := two_new W0 z u T T
  rw [h0, h1]
  rw [s0] at z1 u1
  exact ⟨W1, rfl, x0.below b1 (by omega), y0.below b1 (by omega), z1, u1, Lib.grownBy_trans (below_grown b0) (below_grown b1)⟩

set_option maxHeartbeats 800000 in
theorem g_ok (V M : List Nat) (vb mb a b c d k : Nat) (w : World)
    (hV : Blk w vb (wCells V) 209) (hM : Blk w mb (wCells M) 209) (hvl : V.length = 16) (hml : M.length = 16) (hvw : Ws V) (nm : mb ≠ vb)
    (la : a < 16) (lb : b < 16) (lc : c < 16) (ld : d < 16) (lk : k < 159) :
    Calls Tryd.prog 157 #[.int .i64 a, .int .i64 b, .int .i64 c, .int .i64 d, .int .i64 k, .pointer (some ⟨vb, 0, none⟩), .pointer (some ⟨mb, 0, none⟩)] w fun e w' =>
      e = .returned (.tuple #[]) ∧ Blk w' vb (wCells (mixL V a b c d (gV M (sg k)) (gV M (sg (k + 1))))) 209 ∧ w.grownBy w' (some vb) := by
  have hmf : ∀ (fn : Fn) (first cap : Array Value) (w : World), (Instr.makeFunc fn first cap).run Tryd.prog w = .ok (.func fn first cap) w := fun _ _ _ _ => rfl
  obtain ⟨W, hW, o1, o2, o3, o4, hg⟩ := four_new w (.int .i64 a) (.int .i64 b) (.int .i64 c) (.int .i64 d) 3
  have hvlt := hV.lt
  have hV1 := hV.grown hg (by simp)
  have hM1 := hM.grown hg (by simp)
  have HW := Lib.hid hW; have O1 := Lib.hid o1; have O2 := Lib.hid o2; have O3 := Lib.hid o3; have O4 := Lib.hid o4; have HV := Lib.hid hV1; have HM := Lib.hid hM1; have G := Lib.hid hg
  clear hW o1 o2 o3 o4 hV hM hV1 hM1 hg
  go_enter Tryd.func157, Tryd.ntmps157
  go_upto_region 1 with (fail)
  rw [HW.out]
  go_wp2_with fail
  refine (half_16 V M vb mb w.heap.size (w.heap.size + 1) (w.heap.size + 1 + 1) (w.heap.size + 1 + 1 + 1) a b c d k W HV.out HM.out hvl hml hvw O1.out O2.out O3.out O4.out (by omega) (by omega) (by omega) (by omega) la lb lc ld (by omega)).mono ?_
  rintro e w2 ⟨rfl, b2, g2⟩
  have l2 : (halfL V a b c d (gV M (sg k)) 16 12).length = 16 := by rw [halfL_len]; exact hvl
  have x2 := halfL_ws hvw a b c d (gV M (sg k)) 16 12
  have B2 := Lib.hid b2; have G2 := Lib.hid g2; clear b2 g2
  go_wp2_with fail
  have hs := G.out.size
  refine (show Calls Tryd.prog 158 #[.int .i64 ((k : Int) + 1), .int .i64 8, .int .i64 7, .pointer (some ⟨vb, 0, none⟩), .pointer (some ⟨w.heap.size, 0, none⟩), .pointer (some ⟨w.heap.size + 1, 0, none⟩), .pointer (some ⟨mb, 0, none⟩), .pointer (some ⟨w.heap.size + 1 + 1 + 1, 0, none⟩), .pointer (some ⟨w.heap.size + 1 + 1, 0, none⟩)] w2 _ from
    half_8 _ M vb mb w.heap.size (w.heap.size + 1) (w.heap.size + 1 + 1) (w.heap.size + 1 + 1 + 1) a b c d (k + 1) w2 B2.out (HM.out.grown G2.out (by simpa using nm)) l2 hml x2
      (O1.out.grown G2.out (by simp; omega)) (O2.out.grown G2.out (by simp; omega)) (O3.out.grown G2.out (by simp; omega)) (O4.out.grown G2.out (by simp; omega)) (by omega) (by omega) (by omega) (by omega) la lb lc ld (by omega)).mono ?_
  rintro e w3 ⟨rfl, b3, g3⟩
  have B3 := Lib.hid b3; have G3 := Lib.hid g3; clear b3 g3
  go_wp2
  go_end0
  exact ⟨rfl, B3.out, Lib.grownBy_trans (grown_none G.out) (Lib.grownBy_trans G2.out G3.out)⟩

theorem g_col (V M : List Nat) (vb mb r j : Nat) (w : World)
    (hV : Blk w vb (wCells V) 209) (hM : Blk w mb (wCells M) 209) (hvl : V.length = 16) (hml : M.length = 16) (hvw : Ws V) (nm : mb ≠ vb) (hr : r < 10) (hj : j < 4) :
    Calls Tryd.prog 157 #[.int .i64 j, .int .i64 (4 + (j : Int)), .int .i64 (8 + (j : Int)), .int .i64 (12 + (j : Int)), .int .i64 (16 * (r : Int) + 2 * (j : Int)), .pointer (some ⟨vb, 0, none⟩), .pointer (some ⟨mb, 0, none⟩)] w fun e w' =>
      e = .returned (.tuple #[]) ∧ Blk w' vb (wCells (stepL M V (8 * r + j))) 209 ∧ w.grownBy w' (some vb) := by
  have e : stepL M V (8 * r + j) = mixL V j (4 + j) (8 + j) (12 + j) (gV M (sg (16 * r + 2 * j))) (gV M (sg (16 * r + 2 * j + 1))) := by
    unfold stepL plA plB plC plD
    rw [if_pos (by omega), if_pos (by omega), if_pos (by omega), show (8 * r + j) % 4 = j by omega, show 2 * (8 * r + j) = 16 * r + 2 * j by omega]
  rw [e]
  exact g_ok V M vb mb j (4 + j) (8 + j) (12 + j) (16 * r + 2 * j) w hV hM hvl hml hvw nm (by omega) (by omega) (by omega) (by omega) (by omega)
theorem g_dia (V M : List Nat) (vb mb r j q1 q2 q3 : Nat) (w : World)
    (hV : Blk w vb (wCells V) 209) (hM : Blk w mb (wCells M) 209) (hvl : V.length = 16) (hml : M.length = 16) (hvw : Ws V) (nm : mb ≠ vb) (hr : r < 10) (hj : j < 4)
    (h1 : (j + 1) % 4 = q1) (h2 : (j + 2) % 4 = q2) (h3 : (j + 3) % 4 = q3) :
    Calls Tryd.prog 157 #[.int .i64 j, .int .i64 (4 + (q1 : Int)), .int .i64 (8 + (q2 : Int)), .int .i64 (12 + (q3 : Int)), .int .i64 (16 * (r : Int) + 8 + 2 * (j : Int)), .pointer (some ⟨vb, 0, none⟩), .pointer (some ⟨mb, 0, none⟩)] w fun e w' =>
      e = .returned (.tuple #[]) ∧ Blk w' vb (wCells (stepL M V (8 * r + 4 + j))) 209 ∧ w.grownBy w' (some vb) := by
  have e : stepL M V (8 * r + 4 + j) = mixL V j (4 + q1) (8 + q2) (12 + q3) (gV M (sg (16 * r + 8 + 2 * j))) (gV M (sg (16 * r + 8 + 2 * j + 1))) := by
    unfold stepL plA plB plC plD
    rw [if_neg (by omega), if_neg (by omega), if_neg (by omega), show (8 * r + 4 + j) % 4 = j by omega, show 2 * (8 * r + 4 + j) = 16 * r + 8 + 2 * j by omega, h1, h2, h3]
  rw [e]
  exact g_ok V M vb mb j (4 + q1) (8 + q2) (12 + q3) (16 * r + 8 + 2 * j) w hV hM hvl hml hvw nm (by omega) (by omega) (by omega) (by omega) (by omega)

end Go.Proofs.YtaffpgafbjhahaaDoor
