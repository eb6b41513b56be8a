/- A row of votes, sorted: the sort's words and ours. Walk: Tally.Votes. -/
import Derived.Test.YtfnginmoiecgnaaDoorVs1
import Derived.Shelf.SlSortCmp.WholeK
import Derived.Test.YtfnginmoiecgnaaDoorSort
import Derived.Shelf.SlSortCmp.NoneTotal
namespace Go.Proofs.YtfnginmoiecgnaaDoor
open Go.RowKit Go.Maps Go.Sort
set_option maxRecDepth 100000

/-- a vote that is one -/
abbrev VoteW : Type := { v : VoteD // v.wf }
instance : Inhabited VoteW := ⟨⟨zeroV, zeroV_wf⟩⟩
def encV (x : VoteW) : List Value := x.1.cells
theorem encV_length (x : VoteW) : (encV x).length = 39 := x.1.cells_length x.2
def bare (xs : List VoteW) : List VoteD := xs.map (·.1)
theorem vsCells_length (xs : List VoteW) : (vsCells (bare xs)).length = xs.length * 39 := by
  have := flat_length VoteD.cells 39 (bare xs) (fun d hd => by obtain ⟨x, _, rfl⟩ := List.mem_map.1 hd; exact x.1.cells_length x.2)
  simpa [vsCells, bare] using this
theorem flatV (xs : List VoteW) : (flatK encV 39 xs.toArray).toList = vsCells (bare xs) := by
  have hs : (flatK encV 39 xs.toArray).size = xs.length * 39 := by simp
  apply List.ext_getElem
  · rw [vsCells_length]; exact hs
  · intro t h1 h2
    have ht : t < xs.length * 39 := by rw [vsCells_length] at h2; exact h2
    have hi : t / 39 < xs.length := Nat.div_lt_of_lt_mul (by omega)
    have g := get_flatK encV 39 xs.toArray t (by simpa using ht)
    rw [getElem!_pos _ t (by rw [hs]; exact ht)] at g
    rw [Array.getElem_toList, g]
    have hfp := flat_part VoteD.cells 39 (bare xs) (fun d hd => by obtain ⟨x, _, rfl⟩ := List.mem_map.1 hd; exact x.1.cells_length x.2) (t / 39) (by simpa [bare] using hi)
    have hx : (xs.toArray)[t / 39]! = xs[t / 39] := by simp [hi]
    rw [hx]
    have hm : t % 39 < 39 := Nat.mod_lt _ (by decide)
    have e1 : (vsCells (bare xs))[t]? = ((bare xs)[t / 39]'(by simpa [bare] using hi)).cells[t % 39]? := by
      have e2 : t = t / 39 * 39 + t % 39 := by rw [Nat.mul_comm]; exact (Nat.div_add_mod t 39).symm
      rw [← hfp, List.getElem?_take_of_lt hm, List.getElem?_drop, ← e2]
      rfl
    have e3 : (bare xs)[t / 39]'(by simpa [bare] using hi) = xs[t / 39].1 := by simp [bare]
    rw [e3] at e1
    have hl := encV_length xs[t / 39]
    have h5 : t % 39 < xs[t / 39].1.cells.length := by have : xs[t / 39].1.cells.length = 39 := hl; omega
    rw [List.getElem?_eq_getElem h2, List.getElem?_eq_getElem h5] at e1
    have e4 : (encV xs[t / 39])[t % 39]! = xs[t / 39].1.cells[t % 39] := by
      exact getElem!_pos (xs[t / 39].1.cells) (t % 39) h5
    rw [e4]
    exact (Option.some.inj e1).symm

theorem holdsV {w : World} {g : Nat} {cur : Array Value} {e : TypeId} {xs : List VoteW} (hb : w.heap[g]? = some (.cells cur e (0, 0))) (ht : cur.toList.take (xs.length * 39) = vsCells (bare xs)) : HoldsK encV 39 w g 0 xs.toArray := by
  intro j hj
  have hj' : j < xs.length * 39 := by simpa using hj
  refine ⟨?_, by simp [World.frozen?, hb]⟩
  have h1 : (cur.toList.take (xs.length * 39))[j]? = (vsCells (bare xs))[j]? := by rw [ht]
  rw [List.getElem?_take_of_lt hj', ← flatV] at h1
  simp only [World.cell?, hb, Nat.zero_add]
  simp only [Option.isSome_none, Bool.false_eq_true, if_false]
  rw [← Array.getElem?_toList, h1, Array.getElem?_toList, Array.getElem?_eq_getElem hj]
  exact congrArg some (getElem!_pos (flatK encV 39 xs.toArray) j hj).symm
theorem heap_sortedK {w : World} {g n : Nat} {os : Array Obj} {cur : Array Value} {e : TypeId} {fr : Nat × Nat} (d : Array VoteW) (hb : w.heap[g]? = some (.cells cur e fr)) :
    (sortWorldK encV 39 w g 0 n d os).heap[g]? = some (.cells (putCells id 0 (flatK encV 39 d) cur) e fr) := by
  have hg : g < w.heap.size := (Array.getElem?_eq_some_iff.1 hb).1
  unfold sortWorldK putRowK
  rw [heap_grow_old _ _ (by simpa using hg)]
  simp [putRow, mapBlock, Sort.ahead, Array.getElem?_modify, hb, onCells]
theorem grownBy_sortedK {w : World} {g n : Nat} {os : Array Obj} (d : Array VoteW) : w.grownBy (sortWorldK encV 39 w g 0 n d os) (some g) := by
  unfold sortWorldK putRowK
  refine ⟨rfl, rfl, rfl, by simp, fun k hk hne => ?_⟩
  rw [heap_grow_old _ _ (by simpa using hk)]
  have : g ≠ k := fun e => hne (by rw [e])
  simp [putRow, mapBlock, Sort.ahead, Array.getElem?_modify, this]
theorem take_putCellsK (cur F : Array Value) (h : F.size ≤ cur.size) : (putCells id 0 F cur).toList.take F.size = F.toList := by
  apply List.ext_getElem?
  intro j
  by_cases hj : j < F.size
  · rw [List.getElem?_take_of_lt hj, Array.getElem?_toList, Array.getElem?_toList]
    simp [putCells, hj, show j < cur.size by omega]
  · rw [List.getElem?_take_eq_none (by omega), List.getElem?_eq_none (by simp; omega)]
theorem ownsRow_sortedK {w : World} {base g cap n : Nat} {e : TypeId} {os : Array Obj} {cur : Array Value} {xs ys : List VoteW} (hl : ys.length = xs.length) (hbase : base ≤ g) (hb : w.heap[g]? = some (.cells cur e (0, 0)))
    (h1 : xs.length ≤ cap) (h2 : cap ≤ maxLen) (h3 : cur.size = cap * 39) :
    (sortWorldK encV 39 w g 0 n ys.toArray os).ownsRow base e 39 (.slice (some ⟨g, 0, none⟩) xs.length cap) xs.length (vsCells (bare ys)) :=
  ⟨by rw [vsCells_length, hl], .inr ⟨g, cap, _, rfl, hbase, heap_sortedK _ hb, h1, h2, by simp [putCells, h3], by
    have hs : (flatK encV 39 ys.toArray).size = xs.length * 39 := by simp [hl]
    have := take_putCellsK cur (flatK encV 39 ys.toArray) (by rw [hs, h3]; exact Nat.mul_le_mul_right 39 h1)
    rw [hs] at this
    rw [this, flatV]⟩⟩

theorem ltV (x y : VoteW) : ltOf (fun x y : VoteW => cmpU x.1.key y.1.key) x y = decide (x.1.key < y.1.key) := by
  unfold ltOf cmpU
  by_cases h1 : x.1.key < y.1.key
  · simp [h1]
  · by_cases h2 : y.1.key < x.1.key <;> simp [h1, h2]
theorem swoV : SWO (ltOf fun x y : VoteW => cmpU x.1.key y.1.key) where
  irrefl x := by rw [ltV]; simp
  trans x y z h1 h2 := by rw [ltV] at *; simp at *; omega
  ntrans x y z h1 h2 := by rw [ltV] at *; simp at *; omega
theorem cmpLaysV (g size : Nat) (w : World) : CmpLays Tryd.prog 56 #[] encV 39 (fun x y : VoteW => cmpU x.1.key y.1.key) g 0 size w := fun m os dk _ x y =>
  (votes_cmp x.1 y.1 x.2 y.2 _).mono fun e w' ⟨h1, h2⟩ => ⟨h1, 0, #[.cells x.1.cells.toArray 29] ++ #[.cells y.1.cells.toArray 29], by
    rw [h2, Go.Sort.alloc_eq_grow, Go.Sort.alloc_eq_grow, Go.Sort.grow_grow]; rfl⟩
/-- slices.SortFunc at votes, by their keys -/
theorem sort_votes (v : Value) (xs : List VoteW) (B : Nat) (w : World) (ho : w.ownsRow B 29 39 v xs.length (vsCells (bare xs))) (hl : xs.length ≤ 1000) :
    Calls Tryd.prog 55 #[v, .func (.func 56) #[] #[]] w fun e w' => e = .returned (.tuple #[]) ∧ ∃ ys : List VoteW, ys.Perm xs ∧ ys.Pairwise (fun a b => ¬ b.1.key < a.1.key) ∧ w'.ownsRow B 29 39 v xs.length (vsCells (bare ys)) ∧ w.grownBy w' v.ownBlock := by
  obtain ⟨ho1, ⟨rfl, hn⟩ | ⟨g, cap, cur, rfl, hB, hb, h1, h2, h3, ht⟩⟩ := ho
  · have hx : xs = [] := List.length_eq_zero_iff.1 hn
    subst hx
    exact (AnyF.slices_SortFunc_none Tryd.sortVote none 0 _ w).mono fun e w' ⟨he, hw⟩ => ⟨he, [], .nil, .nil, by rw [hw]; exact ⟨rfl, .inl ⟨rfl, rfl⟩⟩, by rw [hw]; exact World.grownBy.refl _ _⟩
  · have hg : g < w.heap.size := (Array.getElem?_eq_some_iff.1 hb).1
    have eg : ∀ args w, (callFunc 56 args).run Tryd.prog w = .ok (.enter 56 args) w := enters_of Tryd.func56 (by kernel_rfl) rfl
    have hs : xs.toArray.size < 4611686018427387904 := by simp; omega
    have hcon := AnyQ.slices_SortFunc Tryd.sortVote 39 Tryd.isAgg29 Tryd.sizeOf29 encV encV_length (fun x => VoteD_one x.1) (fun x y => cmpU x.1.key y.1.key) swoV 56 #[] g 0 cap xs.toArray w eg (cmpLaysV g _ w) (holdsV hb ht) hg hs
    rw [show xs.toArray.size = xs.length from rfl] at hcon
    refine Calls.mono hcon ?_
    rintro e w' ⟨he, d', n, os, ⟨hsz, _, hperm⟩, hso, rfl⟩
    have hd : d'.size = xs.length := by rw [hsz]; rfl
    rw [show d'.extract 0 xs.length = d' from by rw [← hd]; exact Array.extract_size, show xs.toArray.extract 0 xs.length = xs.toArray from Array.extract_size] at hperm
    refine ⟨he, d'.toList, hperm, ?_, ?_, grownBy_sortedK d'⟩
    · rw [List.pairwise_iff_getElem]
      intro i j hi hj hij
      have hi' : i < d'.size := by simpa using hi
      have hj' : j < d'.size := by simpa using hj
      have := hso i j (Nat.zero_le _) hij (by omega)
      rw [getElem!_pos d' j hj', getElem!_pos d' i hi', ltV] at this
      simpa using this
    · exact ownsRow_sortedK (n := n) (os := os) (ys := d'.toList) (by simpa using hd) hB hb h1 h2 h3

open Classical in
theorem nodup_len : ∀ (xs ys : List VoteD), xs.Nodup → (∀ u ∈ xs, u ∈ ys) → xs.length ≤ ys.length
  | [], _, _, _ => Nat.zero_le _
  | x :: xs, ys, hn, h => by
    rw [List.nodup_cons] at hn
    have hx := h x (by simp)
    have ih := nodup_len xs (ys.erase x) hn.2 fun u hu => (List.mem_erase_of_ne (fun e => hn.1 (by rw [← e]; exact hu))).2 (h u (by simp [hu]))
    rw [List.length_erase_of_mem hx] at ih
    have := List.length_pos_of_mem hx
    simp only [List.length_cons]
    omega
def VotesP (cnt : List VoteD) (w : World) (e : Ending) (w' : World) : Prop := ∃ v ys, e = .returned v ∧ (∀ u, u ∈ ys ↔ u ∈ cnt) ∧ ys.Pairwise (fun a b => a.key < b.key) ∧ w'.ownsRow w.heap.size 29 39 v ys.length (vsCells ys) ∧ w.grownBy w' none
theorem strict_of {ys : List VoteD} (h : ys.Pairwise (fun a b => ¬ b.key < a.key)) (hn : (ys.map (·.key)).Nodup) : ys.Pairwise (fun a b => a.key < b.key) := by
  rw [List.Nodup, List.pairwise_map] at hn
  exact (h.and hn).imp fun {a b} ⟨h1, h2⟩ => by omega

set_option maxHeartbeats 2000000 in
theorem VotesT {w : World} {p bm bs : Nat} {sv tv : Value} {T : TD} (hT : T.ok) (h : TlRep w p bm bs sv tv T) (hsz : T.cnt.length ≤ 1000) :
    Calls Tryd.prog 32 #[.pointer (some ⟨p, 0, none⟩)] w (VotesP T.cnt w) := by
  obtain ⟨n, D, hn, hD, hV⟩ := h.votes
  have c0 := h.blk.row 41 _ (tl_tail hT.of 0)
  rw [Nat.zero_add] at c0
  have HD := Lib.hid hD; have HV := Lib.hid hV; have HS := Lib.hid (Nat.le_trans hD.size_le (Nat.le_trans hn hsz)); have HT := Lib.hid hT; have HSz := Lib.hid hsz
  clear hn hD hV h hT hsz
  go_enter Tryd.func32, Tryd.ntmps32
  go_wp2_with fail
  refine (values_votes bm w).mono ?_
  rintro e w1 ⟨rfl, hw1⟩
  have b1 : Blk w1 w.heap.size [.map (some bm)] 81 := hw1 ▸ Blk.new w [.map (some bm)] _
  have g1 : w.grownBy w1 none := hw1 ▸ World.grownBy_alloc w _ none
  have cb := b1.row 0 _ rfl
  rw [Nat.zero_add] at cb
  have G1 := Lib.hid g1
  have CC := Lib.hid (collect_votes w.heap.size bm n D T.cnt w1 cb (HD.out.kept g1 (by simp)) HT.out.cnt HT.out.keys HV.out HS.out)
  have HLt := Lib.hid (show w.heap.size ≤ w1.heap.size from g1.size)
  clear hw1 b1 g1 cb c0
  go_wp2_with fail
  refine CC.out.mono ?_
  rintro e w2 ⟨v, xs, rfl, hA, ho, g2⟩
  have hwf : ∀ u ∈ xs, u.wf := fun u hu => HT.out.cnt u ((hA.1 u).1 hu)
  obtain ⟨zs, hz⟩ : ∃ zs : List VoteW, bare zs = xs := ⟨xs.pmap (fun v h => ⟨v, h⟩) hwf, by simp [bare, List.map_pmap]⟩
  have hzl : zs.length = xs.length := by rw [← hz]; simp [bare]
  have HA := Lib.hid hA; have G2 := Lib.hid (Lib.grownBy_trans G1.out g2)
  have hxl : xs.length ≤ 1000 := by
    have h1 : xs.length ≤ T.cnt.length := by
      have hn : xs.Nodup := by
        have := hA.2
        rw [List.Nodup, List.pairwise_map] at this
        exact this.imp fun {a b} h e => h (by rw [e])
      exact nodup_len xs T.cnt hn fun u hu => (hA.1 u).1 hu
    have := HSz.out; omega
  have CS := sort_votes v zs w1.heap.size w2 (by rw [hz, hzl]; exact ho) (by omega)
  obtain ⟨ta, tn, tc, hvs⟩ : ∃ a b c, v = .slice a b c := by rcases ho.2 with ⟨h, _⟩ | ⟨g, cap, cur, h, _⟩ <;> exact ⟨_, _, _, h⟩
  subst hvs
  have HCS := Lib.hid CS; have HZ := Lib.hid hz; have HO := Lib.hid ho; have HZl := Lib.hid hzl
  clear CS hz ho hzl hxl hwf hA g2 CC
  go_wp2_with fail
  refine HCS.out.mono ?_
  rintro e w3 ⟨rfl, ys, hp, hs, ho3, g3⟩
  have HP := Lib.hid hp; have HSo := Lib.hid hs; have HO3 := Lib.hid ho3; have G3 := Lib.hid g3
  clear hp hs ho3 g3 HCS
  go_wp2_with fail
  go_ret
  have hpb : (bare ys).Perm xs := by rw [← HZ.out]; exact HP.out.map _
  have hyl : ys.length = zs.length := HP.out.length_eq
  refine ⟨_, bare ys, rfl, fun u => by rw [hpb.mem_iff]; exact HA.out.1 u, strict_of ?_ ?_, ?_, ?_⟩
  · unfold bare
    rw [List.pairwise_map]
    exact HSo.out.imp fun h => by omega
  · exact ((hpb.map (·.key)).nodup_iff).2 HA.out.2
  · have := HO3.out
    have e1 : (bare ys).length = zs.length := by simp [bare, hyl]
    rw [e1]
    refine ⟨this.1, ?_⟩
    rcases this.2 with h | ⟨g, cap, cur, h1, h2, h3⟩
    · exact .inl h
    · exact .inr ⟨g, cap, cur, h1, Nat.le_trans HLt.out h2, h3⟩
  · exact World.grownBy.andThen G2.out G3.out (fun j hj => Or.inl (by
      have := (HO.out.lt j hj).1
      have := HLt.out
      omega))

end Go.Proofs.YtfnginmoiecgnaaDoor
