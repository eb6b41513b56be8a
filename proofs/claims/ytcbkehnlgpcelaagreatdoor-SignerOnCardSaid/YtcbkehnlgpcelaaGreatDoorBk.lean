/- The digest as a plain function on numbers: what the program and the document both compute. -/
import Derived.WalkKit
import Derived.Laws.BitsAll
import Derived.Lib.Hide
import Derived.Lib.ConvBytes
namespace Go.Proofs.YtcbkehnlgpcelaaGreatDoor
open Go.RowKit
set_option maxRecDepth 100000

/-- the cells of words -/
def wCells (V : List Nat) : List Value := V.map fun (n : Nat) => .int .u32 (n : Int)
theorem wCells_length (V : List Nat) : (wCells V).length = V.length := by simp [wCells]
theorem wCells_append (V U : List Nat) : wCells (V ++ U) = wCells V ++ wCells U := by simp [wCells]
theorem wCells_set (V : List Nat) (i n : Nat) : wCells (V.set i n) = (wCells V).set i (.int .u32 (n : Int)) := by simp [wCells, List.map_set]
theorem wCells_one (V : List Nat) : ∀ v ∈ wCells V, v.oneCell' = true := by
  intro v hv
  obtain ⟨n, _, rfl⟩ := List.mem_map.1 hv
  rfl
/-- the word at a place -/
def gV (V : List Nat) (i : Nat) : Nat := V.getD i 0
theorem wCells_get (V : List Nat) (i : Nat) (h : i < V.length) : (wCells V)[i]? = some (.int .u32 (gV V i : Int)) := by
  simp [wCells, gV, List.getD, List.getElem?_eq_getElem h]
/-- all are words -/
def Ws (V : List Nat) : Prop := ∀ n ∈ V, n < 4294967296
theorem Ws.get {V : List Nat} (h : Ws V) (i : Nat) : gV V i < 4294967296 := by
  unfold gV
  rw [List.getD_eq_getElem?_getD]
  cases hq : V[i]? with
  | none => simp
  | some x => exact h x (List.mem_of_getElem? hq)
theorem Ws.set {V : List Nat} (h : Ws V) (i n : Nat) (hn : n < 4294967296) : Ws (V.set i n) := by
  intro x hx
  rcases List.mem_or_eq_of_mem_set hx with hx | rfl
  · exact h x hx
  · exact hn
theorem Ws.append {V U : List Nat} (h : Ws V) (h' : Ws U) : Ws (V ++ U) := fun n hn => (List.mem_append.1 hn).elim (h n) (h' n)
theorem gV_set (V : List Nat) (i j n : Nat) (hi : i < V.length) : gV (V.set i n) j = if i = j then n else gV V j := by
  unfold gV
  simp only [List.getD_eq_getElem?_getD, List.getElem?_set]
  split
  · rename_i e; subst e; simp
  · rfl

/-- turned right -/
def ror (x k : Nat) : Nat := (x * 2 ^ (32 - k)) % 4294967296 ||| x / 2 ^ k
theorem ror_lt (x k : Nat) (h : x < 4294967296) : ror x k < 4294967296 := by
  refine Nat.or_lt_two_pow (n := 32) (Nat.mod_lt _ (by omega)) (Nat.lt_of_le_of_lt (Nat.div_le_self _ _) h)
theorem xor_lt {a b : Nat} (ha : a < 4294967296) (hb : b < 4294967296) : a ^^^ b < 4294967296 := Nat.xor_lt_two_pow (n := 32) ha hb

/-- half a G -/
def half1 (V : List Nat) (a b z : Nat) : List Nat := V.set a ((gV V a + (gV V b + z)) % 4294967296)
def half2 (V : List Nat) (a d x : Nat) : List Nat := V.set d (ror (gV V d ^^^ gV V a) x)
def halfL (V : List Nat) (a b c d z x y : Nat) : List Nat :=
  half2 (half1 (half2 (half1 V a b z) a d x) c d 0) c b y
/-- G -/
def mixL (V : List Nat) (a b c d z1 z2 : Nat) : List Nat := halfL (halfL V a b c d z1 16 12) a b c d z2 8 7

theorem half1_len (V : List Nat) (a b z : Nat) : (half1 V a b z).length = V.length := by simp [half1]
theorem half2_len (V : List Nat) (a b z : Nat) : (half2 V a b z).length = V.length := by simp [half2]
theorem halfL_len (V : List Nat) (a b c d z x y : Nat) : (halfL V a b c d z x y).length = V.length := by simp [halfL, half1, half2]
theorem mixL_len (V : List Nat) (a b c d z y : Nat) : (mixL V a b c d z y).length = V.length := by simp [mixL, halfL_len]
theorem half1_ws {V : List Nat} (h : Ws V) (a b z : Nat) : Ws (half1 V a b z) := h.set _ _ (Nat.mod_lt _ (by omega))
theorem half2_ws {V : List Nat} (h : Ws V) (a d x : Nat) : Ws (half2 V a d x) := h.set _ _ (ror_lt _ _ (xor_lt (h.get _) (h.get _)))
theorem halfL_ws {V : List Nat} (h : Ws V) (a b c d z x y : Nat) : Ws (halfL V a b c d z x y) := half2_ws (half1_ws (half2_ws (half1_ws h _ _ _) _ _ _) _ _ _) _ _ _
theorem mixL_ws {V : List Nat} (h : Ws V) (a b c d z y : Nat) : Ws (mixL V a b c d z y) := halfL_ws (halfL_ws h _ _ _ _ _ _ _) _ _ _ _ _ _ _

/-- a figure's number -/
def figN (c : Nat) : Nat := if 97 ≤ c then c - 97 + 10 else c - 48
def ordersL : List Nat := [48, 49, 50, 51, 52, 53, 54, 55, 56, 57, 97, 98, 99, 100, 101, 102, 101, 97, 52, 56, 57, 102, 100, 54, 49, 99, 48, 50, 98, 55, 53, 51, 98, 56, 99, 48, 53, 50, 102, 100, 97, 101, 51, 54, 55, 49, 57, 52, 55, 57, 51, 49, 100, 99, 98, 101, 50, 54, 53, 97, 52, 48, 102, 56, 57, 48, 53, 55, 50, 52, 97, 102, 101, 49, 98, 99, 54, 56, 51, 100, 50, 99, 54, 97, 48, 98, 56, 51, 52, 100, 55, 53, 102, 101, 49, 57, 99, 53, 49, 102, 101, 100, 52, 97, 48, 55, 54, 51, 57, 50, 56, 98, 100, 98, 55, 101, 99, 49, 51, 57, 53, 48, 102, 52, 56, 54, 50, 97, 54, 102, 101, 57, 98, 51, 48, 56, 99, 50, 100, 55, 49, 52, 97, 53, 97, 50, 56, 52, 55, 54, 49, 53, 102, 98, 57, 101, 51, 99, 100, 48]
/-- the byte of the orders -/
def ordC (k : Nat) : Nat := ordersL.getD k 48
def figOk (c : Nat) : Bool := (decide (48 ≤ c) && decide (c ≤ 57)) || (decide (97 ≤ c) && decide (c ≤ 102))
theorem orders_ok : ordersL.all figOk = true := by kernel_rfl
theorem ordC_ok (k : Nat) : figOk (ordC k) = true := by
  unfold ordC
  rw [List.getD_eq_getElem?_getD]
  cases hq : ordersL[k]? with
  | none => rfl
  | some x => exact List.all_eq_true.1 orders_ok x (List.mem_of_getElem? hq)
/-- which word the k-th is -/
def sg (k : Nat) : Nat := figN (ordC k)
theorem figN_lt {c : Nat} (h : figOk c = true) : figN c < 16 := by
  unfold figN
  simp [figOk] at h
  split <;> omega
theorem sg_lt (k : Nat) : sg k < 16 := figN_lt (ordC_ok k)

/-- the places of the k-th G -/
def plA (k : Nat) : Nat := k % 4
def plB (k : Nat) : Nat := if k % 8 < 4 then 4 + k % 4 else 4 + (k % 4 + 1) % 4
def plC (k : Nat) : Nat := if k % 8 < 4 then 8 + k % 4 else 8 + (k % 4 + 2) % 4
def plD (k : Nat) : Nat := if k % 8 < 4 then 12 + k % 4 else 12 + (k % 4 + 3) % 4
/-- the k-th G -/
def stepL (M V : List Nat) (k : Nat) : List Nat := mixL V (plA k) (plB k) (plC k) (plD k) (gV M (sg (2 * k))) (gV M (sg (2 * k + 1)))
/-- the first k -/
def stepsL (M V : List Nat) : Nat → List Nat
  | 0 => V
  | k + 1 => stepL M (stepsL M V k) k
theorem stepsL_len (M V : List Nat) (k : Nat) : (stepsL M V k).length = V.length := by
  induction k with
  | zero => rfl
  | succ k ih => simp [stepsL, stepL, mixL_len, ih]
theorem stepsL_ws {V : List Nat} (h : Ws V) (M : List Nat) (k : Nat) : Ws (stepsL M V k) := by
  induction k with
  | zero => exact h
  | succ k ih => exact mixL_ws ih _ _ _ _ _ _

/-- the words of a block's bytes -/
def wordAt (B : List UInt8) (i : Nat) : Nat := (B.getD (4 * i) 0).toNat + (B.getD (4 * i + 1) 0).toNat * 256 + (B.getD (4 * i + 2) 0).toNat * 65536 + (B.getD (4 * i + 3) 0).toNat * 16777216
def msgL (B : List UInt8) : List Nat := (List.range 16).map (wordAt B)
def rootsL : List Nat := [1779033703, 3144134277, 1013904242, 2773480762, 1359893119, 2600822924, 528734635, 1541459225]
/-- V at the beginning -/
def beginL (H : List Nat) (done : Nat) (last : Bool) : List Nat :=
  let V := H ++ rootsL
  let V1 := V.set 12 (gV V 12 ^^^ done % 4294967296)
  let V2 := V1.set 13 (gV V1 13 ^^^ done / 4294967296)
  if last then V2.set 14 (gV V2 14 ^^^ 4294967295) else V2
/-- H behind a block -/
def blockL (H : List Nat) (B : List UInt8) (done : Nat) (last : Bool) : List Nat :=
  let V := stepsL (msgL B) (beginL H done last) 80
  (List.range 8).map fun i => gV H i ^^^ (gV V i ^^^ gV V (i + 8))
theorem rootsL_ws : Ws rootsL := by intro n hn; simp [rootsL] at hn; omega
theorem beginL_len (H : List Nat) (done : Nat) (last : Bool) (h : H.length = 8) : (beginL H done last).length = 16 := by
  unfold beginL; cases last <;> simp [h, rootsL]
theorem beginL_ws {H : List Nat} (h : Ws H) (done : Nat) (hd : done < 18446744073709551616) (last : Bool) : Ws (beginL H done last) := by
  have h0 := h.append rootsL_ws
  have h1 := h0.set 12 (gV (H ++ rootsL) 12 ^^^ done % 4294967296) (xor_lt (h0.get _) (Nat.mod_lt _ (by omega)))
  have h2 := h1.set 13 _ (xor_lt (h1.get 13) (Nat.div_lt_of_lt_mul (m := done) (n := 4294967296) (k := 4294967296) (by omega)))
  unfold beginL
  cases last
  · exact h2
  · exact h2.set 14 _ (xor_lt (h2.get 14) (by omega))
theorem blockL_len (H : List Nat) (B : List UInt8) (done : Nat) (last : Bool) : (blockL H B done last).length = 8 := by simp [blockL]
theorem blockL_ws {H : List Nat} (h : Ws H) (B : List UInt8) (done : Nat) (hd : done < 18446744073709551616) (last : Bool) : Ws (blockL H B done last) := by
  intro n hn
  unfold blockL at hn
  obtain ⟨i, _, rfl⟩ := List.mem_map.1 hn
  have hv := stepsL_ws (beginL_ws h done hd last) (msgL B) 80
  exact xor_lt (h.get _) (xor_lt (hv.get _) (hv.get _))

/-- the first H -/
def startL : List Nat := [1795745351, 3144134277, 1013904242, 2773480762, 1359893119, 2600822924, 528734635, 1541459225]
theorem startL_ws : Ws startL := by intro n hn; simp [startL] at hn; omega
/-- a block, filled up -/
def padL (l : List UInt8) : List UInt8 := l ++ List.replicate (64 - l.length) 0
/-- H behind the bytes from a place on: f blocks at most -/
def hashL : Nat → List Nat → Nat → List UInt8 → List Nat
  | 0, H, _, _ => H
  | f + 1, H, done, l =>
    if 64 < l.length then hashL f (blockL H (l.take 64) (done + 64) false) (done + 64) (l.drop 64)
    else blockL H (padL l) (done + l.length) true
/-- the digest -/
def outL (H : List Nat) : List UInt8 := (List.range 32).map fun i => UInt8.ofNat (gV H (i / 4) / 256 ^ (i % 4))
def blake (l : List UInt8) : List UInt8 := outL (hashL (l.length + 1) startL 0 l)
theorem blake_len (l : List UInt8) : (blake l).length = 32 := by simp [blake, outL]

/-- a digest under way -/
structure BkS where
  H : List Nat
  buf : List UInt8
  done : Nat
/-- a byte more -/
def BkS.put (s : BkS) (c : UInt8) : BkS :=
  if s.buf.length = 64 then ⟨blockL s.H s.buf (s.done + 64) false, [c], s.done + 64⟩ else ⟨s.H, s.buf ++ [c], s.done⟩
def BkS.puts (s : BkS) (l : List UInt8) : BkS := l.foldl BkS.put s
def BkS.sum (s : BkS) : List UInt8 := outL (blockL s.H (padL s.buf) (s.done + s.buf.length) true)
def BkS.start : BkS := ⟨startL, [], 0⟩
theorem BkS.puts_append (s : BkS) (l m : List UInt8) : s.puts (l ++ m) = (s.puts l).puts m := by simp [BkS.puts]
theorem BkS.puts_cons (s : BkS) (c : UInt8) (m : List UInt8) : s.puts (c :: m) = (s.put c).puts m := rfl
theorem BkS.puts_snoc (s : BkS) (l : List UInt8) (c : UInt8) : s.puts (l ++ [c]) = (s.puts l).put c := by simp [BkS.puts]

theorem BkS.hash_puts : ∀ (l : List UInt8) (s : BkS) (f : Nat), s.buf.length ≤ 64 → (s.buf ++ l).length < f →
    outL (hashL f s.H s.done (s.buf ++ l)) = (s.puts l).sum := by
  intro l
  induction l with
  | nil =>
    intro s f hb hf
    obtain ⟨g, rfl⟩ : ∃ g, f = g + 1 := ⟨f - 1, by omega⟩
    rw [List.append_nil]
    unfold hashL
    rw [if_neg (by omega)]
    rfl
  | cons c l ih =>
    intro s f hb hf
    rw [BkS.puts_cons]
    obtain ⟨g, rfl⟩ : ∃ g, f = g + 1 := ⟨f - 1, by omega⟩
    by_cases h : s.buf.length = 64
    · have e : s.put c = ⟨blockL s.H s.buf (s.done + 64) false, [c], s.done + 64⟩ := by unfold BkS.put; rw [if_pos h]
      have := ih (s.put c) g (by rw [e]; simp) (by rw [e]; simp at hf ⊢; omega)
      rw [← this, e]
      conv => lhs; unfold hashL
      rw [if_pos (by simp; omega), List.take_append_of_le_length (by omega), List.take_of_length_le (by omega), List.drop_append_of_le_length (by omega), List.drop_eq_nil_of_le (by omega)]
      rfl
    · have e : s.put c = ⟨s.H, s.buf ++ [c], s.done⟩ := by unfold BkS.put; rw [if_neg h]
      have := ih (s.put c) (g + 1) (by rw [e]; simp; omega) (by rw [e]; simp at hf ⊢; omega)
      rw [← this, e]
      simp
theorem blake_puts (l : List UInt8) : blake l = (BkS.start.puts l).sum := BkS.hash_puts l BkS.start _ (by simp [BkS.start]) (by simp [BkS.start])

/-- the words come byte by byte -/
theorem bk_or (a c k : Nat) (ha : a < 2 ^ k) : a ||| c * 2 ^ k = a + c * 2 ^ k := by
  rw [Nat.mul_comm, Nat.or_comm, ← Nat.two_pow_add_eq_or_of_lt ha, Nat.add_comm]
theorem bk_map {α : Type} (f : Nat → α) (i n : Nat) (h : i < n) : ((List.range n).map f)[i]? = some (f i) := by
  rw [List.getElem?_map, List.getElem?_range h]; rfl
theorem gV_map (f : Nat → Nat) (i n : Nat) (h : i < n) : gV ((List.range n).map f) i = f i := by
  show (((List.range n).map f)[i]?).getD 0 = f i
  rw [bk_map f i n h]; rfl
theorem blockL_get (H : List Nat) (B : List UInt8) (done : Nat) (last : Bool) (i : Nat) (h : i < 8) :
    gV (blockL H B done last) i = gV H i ^^^ (gV (stepsL (msgL B) (beginL H done last) 80) i ^^^ gV (stepsL (msgL B) (beginL H done last) 80) (i + 8)) := by
  unfold blockL
  exact gV_map (fun i => gV H i ^^^ (gV (stepsL (msgL B) (beginL H done last) 80) i ^^^ gV (stepsL (msgL B) (beginL H done last) 80) (i + 8))) i 8 h
theorem msgL_get (B : List UInt8) (i : Nat) (h : i < 16) : gV (msgL B) i = wordAt B i := gV_map _ i 16 h
theorem msgL_len (B : List UInt8) : (msgL B).length = 16 := by simp [msgL]
theorem msgL_ws (B : List UInt8) : Ws (msgL B) := by
  intro n hn
  obtain ⟨i, _, rfl⟩ := List.mem_map.1 hn
  unfold wordAt
  have h1 := (B.getD (4 * i) 0).toNat_lt
  have h2 := (B.getD (4 * i + 1) 0).toNat_lt
  have h3 := (B.getD (4 * i + 2) 0).toNat_lt
  have h4 := (B.getD (4 * i + 3) 0).toNat_lt
  omega
theorem bk_take_lt (B : List UInt8) (j k : Nat) (h : k < j) : (B.take j).getD k 0 = B.getD k 0 := by
  simp [List.getD, List.getElem?_take_of_lt h]
theorem bk_take_ge (B : List UInt8) (j k : Nat) (h : j ≤ k) : (B.take j).getD k 0 = 0 := by
  simp [List.getD, List.getElem?_eq_none (l := B.take j) (i := k) (by rw [List.length_take]; omega)]
theorem msgL_step (B : List UInt8) (j : Nat) :
    msgL (B.take (j + 1)) = (msgL (B.take j)).set (j / 4) (gV (msgL (B.take j)) (j / 4) ||| (B.getD j 0).toNat * 2 ^ (j % 4 * 8)) := by
  refine List.ext_getElem (by rw [List.length_set, msgL_len, msgL_len]) fun i h1 _ => ?_
  have hi : i < 16 := by rw [msgL_len] at h1; exact h1
  rw [List.getElem_set]
  have g (B : List UInt8) (h : i < (msgL B).length) : (msgL B)[i] = gV (msgL B) i := by simp [gV, List.getD, List.getElem?_eq_getElem h]
  rw [g, g]
  split
  · rename_i e
    subst e
    rw [msgL_get _ _ hi, msgL_get _ _ hi]
    unfold wordAt
    have b0 := (B.getD (4 * (j / 4)) 0).toNat_lt
    have b1 := (B.getD (4 * (j / 4) + 1) 0).toNat_lt
    have b2 := (B.getD (4 * (j / 4) + 2) 0).toNat_lt
    have z : (0 : UInt8).toNat = 0 := rfl
    rcases (show j % 4 = 0 ∨ j % 4 = 1 ∨ j % 4 = 2 ∨ j % 4 = 3 by omega) with e | e | e | e
    · have e1 : j = 4 * (j / 4) := by omega
      rw [bk_take_lt _ _ _ (by omega), bk_take_ge _ _ (4 * (j / 4) + 1) (by omega), bk_take_ge _ _ (4 * (j / 4) + 2) (by omega), bk_take_ge _ _ (4 * (j / 4) + 3) (by omega),
        bk_take_ge _ _ (4 * (j / 4)) (by omega), bk_take_ge _ _ (4 * (j / 4) + 1) (by omega), bk_take_ge _ _ (4 * (j / 4) + 2) (by omega), bk_take_ge _ _ (4 * (j / 4) + 3) (by omega), e, ← e1]
      simp
    · have e1 : j = 4 * (j / 4) + 1 := by omega
      rw [bk_take_lt _ _ (4 * (j / 4)) (by omega), bk_take_lt _ _ (4 * (j / 4) + 1) (by omega), bk_take_ge _ _ (4 * (j / 4) + 2) (by omega), bk_take_ge _ _ (4 * (j / 4) + 3) (by omega),
        bk_take_lt _ _ (4 * (j / 4)) (by omega), bk_take_ge _ _ (4 * (j / 4) + 1) (by omega), bk_take_ge _ _ (4 * (j / 4) + 2) (by omega), bk_take_ge _ _ (4 * (j / 4) + 3) (by omega), e, ← e1]
      rw [z]
      generalize (B.getD (4 * (j / 4)) 0).toNat = x0 at *
      simp only [Nat.zero_mul, Nat.add_zero]
      have p : (2 : Nat) ^ (1 * 8) = 256 := rfl
      have q := bk_or x0 (B.getD j 0).toNat (1 * 8) (by rw [p]; omega)
      rw [p] at q ⊢
      exact q.symm
    · have e1 : j = 4 * (j / 4) + 2 := by omega
      rw [bk_take_lt _ _ (4 * (j / 4)) (by omega), bk_take_lt _ _ (4 * (j / 4) + 1) (by omega), bk_take_lt _ _ (4 * (j / 4) + 2) (by omega), bk_take_ge _ _ (4 * (j / 4) + 3) (by omega),
        bk_take_lt _ _ (4 * (j / 4)) (by omega), bk_take_lt _ _ (4 * (j / 4) + 1) (by omega), bk_take_ge _ _ (4 * (j / 4) + 2) (by omega), bk_take_ge _ _ (4 * (j / 4) + 3) (by omega), e, ← e1]
      rw [z]
      generalize (B.getD (4 * (j / 4)) 0).toNat = x0 at *
      generalize (B.getD (4 * (j / 4) + 1) 0).toNat = x1 at *
      simp only [Nat.zero_mul, Nat.add_zero]
      have p : (2 : Nat) ^ (2 * 8) = 65536 := rfl
      have q := bk_or (x0 + x1 * 256) (B.getD j 0).toNat (2 * 8) (by rw [p]; omega)
      rw [p] at q ⊢
      exact q.symm
    · have e1 : j = 4 * (j / 4) + 3 := by omega
      rw [bk_take_lt _ _ (4 * (j / 4)) (by omega), bk_take_lt _ _ (4 * (j / 4) + 1) (by omega), bk_take_lt _ _ (4 * (j / 4) + 2) (by omega), bk_take_lt _ _ (4 * (j / 4) + 3) (by omega),
        bk_take_lt _ _ (4 * (j / 4)) (by omega), bk_take_lt _ _ (4 * (j / 4) + 1) (by omega), bk_take_lt _ _ (4 * (j / 4) + 2) (by omega), bk_take_ge _ _ (4 * (j / 4) + 3) (by omega), e, ← e1]
      rw [z]
      generalize (B.getD (4 * (j / 4)) 0).toNat = x0 at *
      generalize (B.getD (4 * (j / 4) + 1) 0).toNat = x1 at *
      generalize (B.getD (4 * (j / 4) + 2) 0).toNat = x2 at *
      simp only [Nat.zero_mul, Nat.add_zero]
      have p : (2 : Nat) ^ (3 * 8) = 16777216 := rfl
      have q := bk_or (x0 + x1 * 256 + x2 * 65536) (B.getD j 0).toNat (3 * 8) (by rw [p]; omega)
      rw [p] at q ⊢
      exact q.symm
  · rename_i e
    rw [msgL_get _ _ hi, msgL_get _ _ hi]
    unfold wordAt
    rcases Nat.lt_or_ge (j / 4) i with h | h
    · rw [bk_take_ge _ _ (4 * i) (by omega), bk_take_ge _ _ (4 * i + 1) (by omega), bk_take_ge _ _ (4 * i + 2) (by omega), bk_take_ge _ _ (4 * i + 3) (by omega),
        bk_take_ge _ _ (4 * i) (by omega), bk_take_ge _ _ (4 * i + 1) (by omega), bk_take_ge _ _ (4 * i + 2) (by omega), bk_take_ge _ _ (4 * i + 3) (by omega)]
    · rw [bk_take_lt _ _ (4 * i) (by omega), bk_take_lt _ _ (4 * i + 1) (by omega), bk_take_lt _ _ (4 * i + 2) (by omega), bk_take_lt _ _ (4 * i + 3) (by omega),
        bk_take_lt _ _ (4 * i) (by omega), bk_take_lt _ _ (4 * i + 1) (by omega), bk_take_lt _ _ (4 * i + 2) (by omega), bk_take_lt _ _ (4 * i + 3) (by omega)]
theorem msgL_nil : msgL [] = List.replicate 16 0 := by kernel_rfl

end Go.Proofs.YtcbkehnlgpcelaaGreatDoor
