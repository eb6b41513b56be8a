/- A channel's entries, sorted. -/
import Derived.Test.YtlahdaanfhedoaaDoorCh4
import Derived.Shelf.SlSortCmp.WholeK
import Derived.Test.YtlahdaanfhedoaaDoorSort
import Derived.Shelf.SlSortCmp.NoneTotal
namespace Go.Proofs.YtlahdaanfhedoaaDoor
open Go.RowKit Go.Maps Go.Sort
set_option maxRecDepth 100000

/-- is a string ahead of another one? -/
def ltS (a b : ByteArray) : Bool := Op.bytesLess a.toList b.toList
def eqS (a b : ByteArray) : Bool := a.toList == b.toList
/-- as cmp.Compare tells -/
def cmpS (a b : ByteArray) : Int := if ltS a b = true then -1 else if (ltS a b || eqS a b) = false then 1 else 0
section
open Go.Op
theorem bl_irr : ∀ a : List UInt8, bytesLess a a = false
  | [] => rfl
  | x :: a => by unfold bytesLess; rw [bl_irr a]; simp
theorem bl_trans : ∀ a b c : List UInt8, bytesLess a b = true → bytesLess b c = true → bytesLess a c = true
  | a, b, [], _, h2 => by cases b <;> simp [bytesLess] at h2
  | [], b, _ :: _, _, _ => rfl
  | x :: a, [], _ :: _, h1, _ => by simp [bytesLess] at h1
  | x :: a, y :: b, z :: c, h1, h2 => by
    simp only [bytesLess, Bool.or_eq_true, Bool.and_eq_true, decide_eq_true_eq, beq_iff_eq] at h1 h2 ⊢
    rcases h1 with h1 | ⟨rfl, h1⟩
    · rcases h2 with h2 | ⟨rfl, h2⟩
      · exact .inl (UInt8.lt_trans h1 h2)
      · exact .inl h1
    · rcases h2 with h2 | ⟨rfl, h2⟩
      · exact .inl h2
      · exact .inr ⟨rfl, bl_trans a b c h1 h2⟩
theorem bl_tri : ∀ a b : List UInt8, bytesLess a b = false → bytesLess b a = false → a = b
  | [], [], _, _ => rfl
  | [], _ :: _, h1, _ => by simp [bytesLess] at h1
  | _ :: _, [], _, h2 => by simp [bytesLess] at h2
  | x :: a, y :: b, h1, h2 => by
    simp only [bytesLess, Bool.or_eq_false_iff, Bool.and_eq_false_iff, decide_eq_false_iff_not, beq_eq_false_iff_ne] at h1 h2
    have e : x = y := UInt8.le_antisymm (UInt8.not_lt.1 h2.1) (UInt8.not_lt.1 h1.1)
    subst e
    rw [bl_tri a b (h1.2.resolve_left (fun h => h rfl)) (h2.2.resolve_left (fun h => h rfl))]
end
/-- an entry -/
structure EntD where
  key : ByteArray
  value : ByteArray
def EntD.wf (_ : EntD) : Prop := True
def EntD.cells (e : EntD) : List Value := [.string e.key, .string e.value]
theorem EntD.cells_length (e : EntD) (_h : e.wf) : e.cells.length = 2 := rfl
theorem EntD_one (e : EntD) : ∀ v ∈ e.cells, v.oneCell' = true := by simp [EntD.cells, Value.oneCell']
def zeroE : EntD := ⟨⟨#[]⟩, ⟨#[]⟩⟩
def esCells (l : List EntD) : List Value := l.flatMap EntD.cells
/-- an entry that is one -/
abbrev EntW : Type := { v : EntD // v.wf }
instance : Inhabited EntW := ⟨⟨zeroE, trivial⟩⟩
def encE (x : EntW) : List Value := x.1.cells
theorem encE_length (x : EntW) : (encE x).length = 2 := x.1.cells_length x.2
def bareE (xs : List EntW) : List EntD := xs.map (·.1)
theorem esCells_length (xs : List EntW) : (esCells (bareE xs)).length = xs.length * 2 := by
  have := flat_length EntD.cells 2 (bareE xs) (fun d hd => by obtain ⟨x, _, rfl⟩ := List.mem_map.1 hd; exact x.1.cells_length x.2)
  simpa [esCells, bareE] using this
theorem flatE (xs : List EntW) : (flatK encE 2 xs.toArray).toList = esCells (bareE xs) := by
  have hs : (flatK encE 2 xs.toArray).size = xs.length * 2 := by simp
  apply List.ext_getElem
  · rw [esCells_length]; exact hs
  · intro t h1 h2
    have ht : t < xs.length * 2 := by rw [esCells_length] at h2; exact h2
    have hi : t / 2 < xs.length := Nat.div_lt_of_lt_mul (by omega)
    have g := get_flatK encE 2 xs.toArray t (by simpa using ht)
    rw [getElem!_pos _ t (by rw [hs]; exact ht)] at g
    rw [Array.getElem_toList, g]
    have hfp := flat_part EntD.cells 2 (bareE xs) (fun d hd => by obtain ⟨x, _, rfl⟩ := List.mem_map.1 hd; exact x.1.cells_length x.2) (t / 2) (by simpa [bareE] using hi)
    have hx : (xs.toArray)[t / 2]! = xs[t / 2] := by simp [hi]
    rw [hx]
    have hm : t % 2 < 2 := Nat.mod_lt _ (by decide)
    have e1 : (esCells (bareE xs))[t]? = ((bareE xs)[t / 2]'(by simpa [bareE] using hi)).cells[t % 2]? := by
      have e2 : t = t / 2 * 2 + t % 2 := by rw [Nat.mul_comm]; exact (Nat.div_add_mod t 2).symm
      rw [← hfp, List.getElem?_take_of_lt hm, List.getElem?_drop, ← e2]
      rfl
    have e3 : (bareE xs)[t / 2]'(by simpa [bareE] using hi) = xs[t / 2].1 := by simp [bareE]
    rw [e3] at e1
    have hl := encE_length xs[t / 2]
    have h5 : t % 2 < xs[t / 2].1.cells.length := by have : xs[t / 2].1.cells.length = 2 := hl; omega
    rw [List.getElem?_eq_getElem h2, List.getElem?_eq_getElem h5] at e1
    have e4 : (encE xs[t / 2])[t % 2]! = xs[t / 2].1.cells[t % 2] := by
      exact getElem!_pos (xs[t / 2].1.cells) (t % 2) h5
    rw [e4]
    exact (Option.some.inj e1).symm

theorem holdsE {w : World} {g : Nat} {cur : Array Value} {e : TypeId} {xs : List EntW} (hb : w.heap[g]? = some (.cells cur e (0, 0))) (ht : cur.toList.take (xs.length * 2) = esCells (bareE xs)) : HoldsK encE 2 w g 0 xs.toArray := by
  intro j hj
  have hj' : j < xs.length * 2 := by simpa using hj
  refine ⟨?_, by simp [World.frozen?, hb]⟩
  have h1 : (cur.toList.take (xs.length * 2))[j]? = (esCells (bareE xs))[j]? := by rw [ht]
  rw [List.getElem?_take_of_lt hj', ← flatE] at h1
  simp only [World.cell?, hb, Nat.zero_add]
  simp only [Option.isSome_none, Bool.false_eq_true, if_false]
  rw [← Array.getElem?_toList, h1, Array.getElem?_toList, Array.getElem?_eq_getElem hj]
  exact congrArg some (getElem!_pos (flatK encE 2 xs.toArray) j hj).symm
theorem heap_sortedE {w : World} {g n : Nat} {os : Array Obj} {cur : Array Value} {e : TypeId} {fr : Nat × Nat} (d : Array EntW) (hb : w.heap[g]? = some (.cells cur e fr)) :
    (sortWorldK encE 2 w g 0 n d os).heap[g]? = some (.cells (putCells id 0 (flatK encE 2 d) cur) e fr) := by
  have hg : g < w.heap.size := (Array.getElem?_eq_some_iff.1 hb).1
  unfold sortWorldK putRowK
  rw [heap_grow_old _ _ (by simpa using hg)]
  simp [putRow, mapBlock, Sort.ahead, Array.getElem?_modify, hb, onCells]
theorem grownBy_sortedE {w : World} {g n : Nat} {os : Array Obj} (d : Array EntW) : w.grownBy (sortWorldK encE 2 w g 0 n d os) (some g) := by
  unfold sortWorldK putRowK
  refine ⟨rfl, rfl, rfl, by simp, fun k hk hne => ?_⟩
  rw [heap_grow_old _ _ (by simpa using hk)]
  have : g ≠ k := fun e => hne (by rw [e])
  simp [putRow, mapBlock, Sort.ahead, Array.getElem?_modify, this]
theorem take_putCellsE (cur F : Array Value) (h : F.size ≤ cur.size) : (putCells id 0 F cur).toList.take F.size = F.toList := by
  apply List.ext_getElem?
  intro j
  by_cases hj : j < F.size
  · rw [List.getElem?_take_of_lt hj, Array.getElem?_toList, Array.getElem?_toList]
    simp [putCells, hj, show j < cur.size by omega]
  · rw [List.getElem?_take_eq_none (by omega), List.getElem?_eq_none (by simp; omega)]
theorem ownsRow_sortedE {w : World} {base g cap n : Nat} {e : TypeId} {os : Array Obj} {cur : Array Value} {xs ys : List EntW} (hl : ys.length = xs.length) (hbase : base ≤ g) (hb : w.heap[g]? = some (.cells cur e (0, 0)))
    (h1 : xs.length ≤ cap) (h2 : cap ≤ maxLen) (h3 : cur.size = cap * 2) :
    (sortWorldK encE 2 w g 0 n ys.toArray os).ownsRow base e 2 (.slice (some ⟨g, 0, none⟩) xs.length cap) xs.length (esCells (bareE ys)) :=
  ⟨by rw [esCells_length, hl], .inr ⟨g, cap, _, rfl, hbase, heap_sortedE _ hb, h1, h2, by simp [putCells, h3], by
    have hs : (flatK encE 2 ys.toArray).size = xs.length * 2 := by simp [hl]
    have := take_putCellsE cur (flatK encE 2 ys.toArray) (by rw [hs, h3]; exact Nat.mul_le_mul_right 2 h1)
    rw [hs] at this
    rw [this, flatE]⟩⟩

theorem ltE (x y : EntW) : ltOf (fun x y : EntW => cmpS x.1.key y.1.key) x y = ltS x.1.key y.1.key := by
  show decide (cmpS x.1.key y.1.key < 0) = ltS x.1.key y.1.key
  unfold cmpS
  cases h : ltS x.1.key y.1.key with
  | true => rfl
  | false =>
    cases eqS x.1.key y.1.key <;> rfl
theorem swoE : SWO (ltOf fun x y : EntW => cmpS x.1.key y.1.key) where
  irrefl x := by rw [ltE]; exact bl_irr _
  trans x y z h1 h2 := by rw [ltE] at *; exact bl_trans _ _ _ h1 h2
  ntrans x y z h1 h2 := by
    rw [ltE] at *
    cases h : ltS x.1.key z.1.key with
    | false => rfl
    | true =>
      have h3 : ltS z.1.key y.1.key = false := by
        cases h4 : ltS z.1.key y.1.key with
        | false => rfl
        | true =>
          have h5 : ltS x.1.key y.1.key = true := bl_trans _ _ _ h h4
          rw [h5] at h1; cases h1
      have e := bl_tri _ _ h2 h3
      unfold ltS at h h1
      rw [← e, h1] at h
      cases h
theorem nanS_ok (a : ByteArray) (w : World) : Calls Tryd.prog 44 #[.string a] w fun e w' => e = .returned (.bool false) ∧ w' = w := by
  go_enter Tryd.func44, Tryd.ntmps44
  go_wp2
  go_ret
  exact ⟨by simp, rfl⟩
theorem cmpS_ok (a b : ByteArray) (w : World) : Calls Tryd.prog 26 #[.string a, .string b] w fun e w' => e = .returned (.int .i64 (cmpS a b)) ∧ w' = w := by
  have C1 := Lib.hid (nanS_ok a w); have C2 := Lib.hid (nanS_ok b w)
  have HB := Lib.hid (show cmpS a b = if ltS a b = true then -1 else if (ltS a b || eqS a b) = false then 1 else 0 from rfl)
  obtain ⟨E, hE⟩ : ∃ z, cmpS a b = z := ⟨_, rfl⟩
  rw [hE] at HB ⊢
  obtain ⟨p, hp⟩ : ∃ z, ltS a b = z := ⟨_, rfl⟩
  obtain ⟨q, hq⟩ : ∃ z, eqS a b = z := ⟨_, rfl⟩
  rw [hp, hq] at HB
  have hp2 : Op.bytesLess a.toList b.toList = p := hp
  have hq2 : (a.toList == b.toList) = q := hq
  clear hE hp hq
  go_enter Tryd.func26, Tryd.ntmps26
  go_wp2_with fail
  refine C1.out.mono ?_
  rintro e w' ⟨rfl, rfl⟩
  go_wp2_with fail
  refine C2.out.mono ?_
  rintro e w' ⟨rfl, rfl⟩
  cases p with
  | true =>
    have hE : E = -1 := HB.out
    go_wp2_with fail
    go_ret
    rw [hE]; exact ⟨rfl, rfl⟩
  | false =>
    cases q with
    | true =>
      have hE : E = 0 := HB.out
      go_wp2_with fail
      go_ret
      rw [hE]; exact ⟨rfl, rfl⟩
    | false =>
      have hE : E = 1 := HB.out
      go_wp2_with fail
      go_ret
      rw [hE]; exact ⟨rfl, rfl⟩
theorem ents_cmp (x y : EntD) (_hx : x.wf) (_hy : y.wf) (w : World) : Calls Tryd.prog 25 #[.agg x.cells.toArray, .agg y.cells.toArray] w fun e w' => e = .returned (.int .i64 (cmpS x.key y.key)) ∧ w' = (w.alloc (.cells x.cells.toArray 57)).alloc (.cells y.cells.toArray 57) := by
  obtain ⟨a, b⟩ := x
  obtain ⟨c, d⟩ := y
  have C := Lib.hid (cmpS_ok a c)
  unfold EntD.cells
  dsimp only
  go_enter Tryd.func25, Tryd.ntmps25
  go_wp2_with fail
  refine (C.out _).mono ?_
  rintro e w' ⟨rfl, rfl⟩
  go_wp2_with fail
  go_ret
  exact ⟨rfl, rfl⟩
theorem cmpLaysE (g size : Nat) (w : World) : CmpLays Tryd.prog 25 #[] encE 2 (fun x y : EntW => cmpS x.1.key y.1.key) g 0 size w := fun m os dk _ x y =>
  (ents_cmp x.1 y.1 x.2 y.2 _).mono fun e w' ⟨h1, h2⟩ => ⟨h1, 0, #[.cells x.1.cells.toArray 57] ++ #[.cells y.1.cells.toArray 57], by
    rw [h2, Go.Sort.alloc_eq_grow, Go.Sort.alloc_eq_grow, Go.Sort.grow_grow]; rfl⟩
/-- slices.SortFunc at entries, by their keys -/
theorem sort_ents (v : Value) (xs : List EntW) (B : Nat) (w : World) (ho : w.ownsRow B 57 2 v xs.length (esCells (bareE xs))) (hl : xs.length ≤ 1000) :
    Calls Tryd.prog 24 #[v, .func (.func 25) #[] #[]] w fun e w' => e = .returned (.tuple #[]) ∧ ∃ ys : List EntW, ys.Perm xs ∧ ys.Pairwise (fun a b => ltS b.1.key a.1.key = false) ∧ w'.ownsRow B 57 2 v xs.length (esCells (bareE ys)) ∧ w.grownBy w' v.ownBlock := by
  obtain ⟨ho1, ⟨rfl, hn⟩ | ⟨g, cap, cur, rfl, hB, hb, h1, h2, h3, ht⟩⟩ := ho
  · have hx : xs = [] := List.length_eq_zero_iff.1 hn
    subst hx
    exact (AnyF.slices_SortFunc_none Tryd.sortVote none 0 _ w).mono fun e w' ⟨he, hw⟩ => ⟨he, [], .nil, .nil, by rw [hw]; exact ⟨rfl, .inl ⟨rfl, rfl⟩⟩, by rw [hw]; exact World.grownBy.refl _ _⟩
  · have hg : g < w.heap.size := (Array.getElem?_eq_some_iff.1 hb).1
    have eg : ∀ args w, (callFunc 25 args).run Tryd.prog w = .ok (.enter 25 args) w := enters_of Tryd.func25 (by kernel_rfl) rfl
    have hs : xs.toArray.size < 4611686018427387904 := by simp; omega
    have hcon := AnyQ.slices_SortFunc Tryd.sortVote 2 Tryd.isAgg57 Tryd.sizeOf57 encE encE_length (fun x => EntD_one x.1) (fun x y => cmpS x.1.key y.1.key) swoE 25 #[] g 0 cap xs.toArray w eg (cmpLaysE g _ w) (holdsE hb ht) hg hs
    rw [show xs.toArray.size = xs.length from rfl] at hcon
    refine Calls.mono hcon ?_
    rintro e w' ⟨he, d', n, os, ⟨hsz, _, hperm⟩, hso, rfl⟩
    have hd : d'.size = xs.length := by rw [hsz]; rfl
    rw [show d'.extract 0 xs.length = d' from by rw [← hd]; exact Array.extract_size, show xs.toArray.extract 0 xs.length = xs.toArray from Array.extract_size] at hperm
    refine ⟨he, d'.toList, hperm, ?_, ?_, grownBy_sortedE d'⟩
    · rw [List.pairwise_iff_getElem]
      intro i j hi hj hij
      have hi' : i < d'.size := by simpa using hi
      have hj' : j < d'.size := by simpa using hj
      have := hso i j (Nat.zero_le _) hij (by omega)
      rw [getElem!_pos d' j hj', getElem!_pos d' i hi', ltE] at this
      simpa using this
    · exact ownsRow_sortedE (n := n) (os := os) (ys := d'.toList) (by simpa using hd) hB hb h1 h2 h3

end Go.Proofs.YtlahdaanfhedoaaDoor
