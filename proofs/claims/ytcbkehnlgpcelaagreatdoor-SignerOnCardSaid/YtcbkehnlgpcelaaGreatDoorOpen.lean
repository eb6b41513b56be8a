/- What comes in: a value of a type of plain cells, taken apart. What comes in: lists of things, light blocks, packets. -/
import Derived.Test.YtcbkehnlgpcelaaGreatDoorBase
import Derived.ProofKit
import Derived.Test.YtcbkehnlgpcelaaGreatDoorSlc
import Derived.OpenShut
import Derived.ChangeArms
namespace Go.Proofs.YtcbkehnlgpcelaaGreatDoor
open Go.RowKit
set_option maxRecDepth 100000

section
variable {P : Program} {W : World} {base : Nat}

def CellsOk (P : Program) (W : World) (base : Nat) : List TypeId → List Value → Prop
  | [], [] => True
  | t :: ts, c :: cs => Cell.okWide P W .any base t c ∧ CellsOk P W base ts cs
  | _, _ => False
theorem cellsOk_of : ∀ (ts : List TypeId) (cs : List Value), cs.length = ts.length → (∀ (i : Nat) (v : Value), cs[i]? = some v → ∃ u, ts[i]? = some u ∧ Cell.okWide P W .any base u v) → CellsOk P W base ts cs
  | [], [], _, _ => trivial
  | t :: ts, c :: cs, hl, h => by
    refine ⟨?_, cellsOk_of ts cs (by simpa using hl) (fun i v hi => ?_)⟩
    · obtain ⟨u, h1, h2⟩ := h 0 c rfl
      simp at h1; subst h1; exact h2
    · obtain ⟨u, h1, h2⟩ := h (i + 1) v (by simpa using hi)
      exact ⟨u, by simpa using h1, h2⟩
  | [], _ :: _, hl, _ => by simp at hl
  | _ :: _, [], hl, _ => by simp at hl

/-- a struct or an array that came in: its cells, one by one -/
theorem cells_open {t : TypeId} {v : Value} {ts : List TypeId} (h : Value.okWide P W .any base t v) (hd : (P.underlying t).map (fun d => match d with | .struct _ | .array _ _ => true | _ => false) = some true)
    (hts : P.cellTypes P.depth t = some ts) (hn : P.cellsOf t = ts.length) : ∃ cs : List Value, v = .agg cs.toArray ∧ CellsOk P W base ts cs := by
  unfold Value.okWide at h
  have h' : ∃ cs, v = .agg cs ∧ cs.size = P.cellsOf t ∧ Row.okWide P W .any base t cs := by
    cases hu : P.underlying t with
    | none => simp [hu] at hd
    | some d => rw [hu] at h hd; cases d <;> simp_all
  obtain ⟨cs, rfl, hs, ts', hts', _, hc⟩ := h'
  rw [hts] at hts'
  injection hts' with hts'
  subst hts'
  refine ⟨cs.toList, by simp, cellsOk_of ts cs.toList (by simp [hs, hn]) (fun i v hi => ?_)⟩
  have hi' : cs[i]? = some v := by simpa using hi
  obtain ⟨u, h1, h2⟩ := hc i v hi'
  have hlt : i < ts.length := by have := (Array.getElem?_eq_some_iff.1 hi').1; omega
  rw [Nat.mod_eq_of_lt hlt] at h1
  exact ⟨u, h1, h2⟩

theorem int_cell {t : TypeId} {k : IntKind} {c : Value} (hu : P.underlying t = some (.int k)) (h : Cell.okWide P W .any base t c) : ∃ n, c = .int k n ∧ k.min ≤ n ∧ n ≤ k.max := by
  unfold Cell.okWide at h
  rw [hu] at h
  unfold Cell.ok at h
  rw [hu] at h
  cases c <;> simp_all [IntKind.has]
theorem string_cell {t : TypeId} {c : Value} (hu : P.underlying t = some .string) (h : Cell.okWide P W .any base t c) : ∃ s : ByteArray, c = .string s ∧ s.size ≤ maxLen := by
  unfold Cell.okWide at h
  rw [hu] at h
  unfold Cell.ok at h
  rw [hu] at h
  cases c <;> simp_all [IntKind.max, IntKind.signed, IntKind.bits, maxLen]
  omega
theorem i64_cell {t : TypeId} {c : Value} (hu : P.underlying t = some (.int .i64)) (h : Cell.okWide P W .any base t c) : ∃ n, c = .int .i64 n ∧ i64R n := by
  obtain ⟨n, e, h1, h2⟩ := int_cell hu h
  refine ⟨n, e, ?_⟩
  simp [IntKind.min, IntKind.max, IntKind.signed, IntKind.bits] at h1 h2
  unfold i64R; omega
theorem u64_cell {t : TypeId} {c : Value} (hu : P.underlying t = some (.int .u64)) (h : Cell.okWide P W .any base t c) : ∃ n, c = .int .u64 n ∧ u64R n := by
  obtain ⟨n, e, h1, h2⟩ := int_cell hu h
  refine ⟨n, e, ?_⟩
  simp [IntKind.min, IntKind.max, IntKind.signed, IntKind.bits] at h1 h2
  unfold u64R; omega
theorem bytes_cells {t : TypeId} (hu : P.underlying t = some (.int .u8)) : ∀ (n : Nat) (ts : List TypeId) (cs : List Value), CellsOk P W base (List.replicate n t ++ ts) cs →
    ∃ l rest, cs = Lib.byteCells l ++ rest ∧ l.length = n ∧ CellsOk P W base ts rest
  | 0, ts, cs, h => ⟨[], cs, rfl, rfl, h⟩
  | n + 1, ts, [], h => by simp [List.replicate_succ, CellsOk] at h
  | n + 1, ts, c :: cs, h => by
    rw [List.replicate_succ, List.cons_append] at h
    obtain ⟨h1, h2⟩ := h
    obtain ⟨x, rfl, hx1, hx2⟩ := int_cell hu h1
    obtain ⟨l, rest, rfl, hl, hr⟩ := bytes_cells hu n ts cs h2
    simp [IntKind.min, IntKind.max, IntKind.signed, IntKind.bits] at hx1 hx2
    refine ⟨UInt8.ofNat x.toNat :: l, rest, ?_, by simp [hl], hr⟩
    have e : ((UInt8.ofNat x.toNat).toNat : Int) = x := by
      rw [UInt8.toNat_ofNat']; omega
    show Value.int .u8 x :: (Lib.byteCells l ++ rest) = Value.int .u8 ((UInt8.ofNat x.toNat).toNat : Int) :: (Lib.byteCells l ++ rest)
    rw [e]
theorem cellsOk_cons {t : TypeId} {ts : List TypeId} {cs : List Value} (h : CellsOk P W base (t :: ts) cs) : ∃ c rest, cs = c :: rest ∧ Cell.okWide P W .any base t c ∧ CellsOk P W base ts rest := by
  cases cs with
  | nil => exact h.elim
  | cons c cs => exact ⟨c, cs, rfl, h⟩
theorem cellsOk_nil {cs : List Value} (h : CellsOk P W base [] cs) : cs = [] := by
  cases cs with
  | nil => rfl
  | cons c cs => exact h.elim
end
open Go.RowKit Go.ChangeShapes Go.WideShapes

section
variable {P : Program} {W : World} {base : Nat}
theorem slice_cell {t e : TypeId} {c : Value} (hu : P.underlying t = some (.slice e)) (h : Cell.okWide P W .any base t c) :
    ∃ ao n k, c = .slice ao n k ∧ n ≤ k ∧ k ≤ maxLen ∧ ((ao = none ∧ n = 0 ∧ k = 0) ∨ ∃ g o, ao = some ⟨g, o, none⟩ ∧ g < W.heap.size) := by
  unfold Cell.okWide at h
  rw [hu] at h
  unfold Cell.ok at h
  rw [hu] at h
  cases c with
  | slice ao n k =>
    cases ao with
    | none =>
      have : n = 0 ∧ k = 0 := by
        revert h
        cases n <;> cases k <;> simp
      exact ⟨none, n, k, rfl, by omega, by unfold maxLen; omega, Or.inl ⟨rfl, this.1, this.2⟩⟩
    | some a =>
      have h' : n ≤ k ∧ (k : Int) ≤ IntKind.i64.max ∧ W.has P .any base a e k := by simpa using h
      obtain ⟨h1, h2, _, h4, row, cells, h5, _⟩ := h'
      obtain ⟨g, o, s⟩ := a
      dsimp only at h4 h5
      subst h4
      refine ⟨_, n, k, rfl, h1, ?_, Or.inr ⟨g, o, rfl, ?_⟩⟩
      · simp [IntKind.max, IntKind.signed, IntKind.bits] at h2; unfold maxLen; omega
      · unfold World.shape? at h5
        split at h5
        · rename_i hh; exact Lib.lt_of_heap hh
        · cases h5
  | _ => simp at h
end

theorem list_of {D : Type} {Q : Nat → D → Prop} : ∀ n, (∀ i, i < n → ∃ x, Q i x) → ∃ l : List D, l.length = n ∧ ∀ i (h : i < l.length), Q i l[i]
  | 0, _ => ⟨[], rfl, fun i h => by simp at h⟩
  | n + 1, h => by
    obtain ⟨l, hl, hq⟩ := list_of n (fun i hi => h i (by omega))
    obtain ⟨x, hx⟩ := h n (by omega)
    refine ⟨l ++ [x], by simp [hl], fun i hi => ?_⟩
    by_cases hin : i < l.length
    · rw [List.getElem_append_left hin]; exact hq i hin
    · have : i = n := by simp at hi; omega
      subst this
      rw [List.getElem_append_right (by omega)]
      simpa [hl] using hx
theorem row_of {D : Type} {f : D → List Value} {k : Nat} {w : World} {g : Nat} (hk : ∀ d, (f d).length = k) : ∀ (l : List D) (o : Nat), (∀ i (h : i < l.length), RowAt w g (o + i * k) (f l[i])) → RowAt w g o (l.flatMap f)
  | [], o, _ => by intro j v hj; simp at hj
  | x :: l, o, h => by
    have h0 := h 0 (by simp)
    rw [Nat.zero_mul, Nat.add_zero] at h0
    have hr := row_of hk l (o + k) (fun i hi => by
      have := h (i + 1) (by simpa using hi)
      rwa [show o + (i + 1) * k = o + k + i * k by rw [Nat.add_mul]; omega] at this)
    intro j v hj
    rw [List.flatMap_cons] at hj
    by_cases hjk : j < k
    · rw [List.getElem?_append_left (by rw [hk]; exact hjk)] at hj
      exact h0 j v hj
    · rw [List.getElem?_append_right (by rw [hk]; omega), hk] at hj
      have := hr (j - k) v hj
      rwa [show o + k + (j - k) = o + j by omega] at this
theorem cells_two {w : World} {b n : Nat} {a : Addr} {cs : List Value} (h : w.cells? b a n = some cs) : cs.length = n ∧ ∀ j, j < n → w.cell? (a.add j) = cs[j]? := by
  obtain ⟨_, h1, h2⟩ := World.cells?_some h
  exact ⟨h1, h2⟩
theorem lit_i64 {n : Int} (h : (Lit.int .i64 n).wf = true) : i64R n := by
  simp [Lit.wf, IntKind.min, IntKind.max, IntKind.signed, IntKind.bits] at h; unfold i64R; omega
theorem lit_u64 {n : Int} (h : (Lit.int .u64 n).wf = true) : u64R n := by
  simp [Lit.wf, IntKind.min, IntKind.max, IntKind.signed, IntKind.bits] at h; unfold u64R; omega

section
variable {H : Type} {enc : TypeId × Value → H} {W : World} {b : Nat} {sp : Nat → Bool} {held : Bool} {fuel : Nat}
end

end Go.Proofs.YtcbkehnlgpcelaaGreatDoor
