/- What comes in: a value of a type of plain cells, taken apart. -/
import Derived.Test.YtaffpgafbjhahaaDoorBase
import Derived.ProofKit
namespace Go.Proofs.YtaffpgafbjhahaaDoor
open Go.RowKit
set_option maxRecDepth 100000

section
variable {P : Program} {W : World} {base : Nat}

def CellsOk (P : Program) (W : World) (base : Nat) : List TypeId → List Value → Prop
  | [], [] => True
  | t :: ts, c :: cs => Cell.okWide P W .any base t c ∧ CellsOk P W base ts cs
  | _, _ => False
theorem cellsOk_of : ∀ (ts : List TypeId) (cs : List Value), cs.length = ts.length → (∀ (i : Nat) (v : Value), cs[i]? = some v → ∃ u, ts[i]? = some u ∧ Cell.okWide P W .any base u v) → CellsOk P W base ts cs
  | [], [], _, _ => trivial
  | t :: ts, c :: cs, hl, h => by
    refine ⟨?_, cellsOk_of ts cs (by simpa using hl) (fun i v hi => ?_)⟩
    · obtain ⟨u, h1, h2⟩ := h 0 c rfl
      simp at h1; subst h1; exact h2
    · obtain ⟨u, h1, h2⟩ := h (i + 1) v (by simpa using hi)
      exact ⟨u, by simpa using h1, h2⟩
  | [], _ :: _, hl, _ => by simp at hl
  | _ :: _, [], hl, _ => by simp at hl

/-- a struct or an array that came in: its cells, one by one -/
theorem cells_open {t : TypeId} {v : Value} {ts : List TypeId} (h : Value.okWide P W .any base t v) (hd : (P.underlying t).map (fun d => match d with | .struct _ | .array _ _ => true | _ => false) = some true)
    (hts : P.cellTypes P.depth t = some ts) (hn : P.cellsOf t = ts.length) : ∃ cs : List Value, v = .agg cs.toArray ∧ CellsOk P W base ts cs := by
  unfold Value.okWide at h
  have h' : ∃ cs, v = .agg cs ∧ cs.size = P.cellsOf t ∧ Row.okWide P W .any base t cs := by
    cases hu : P.underlying t with
    | none => simp [hu] at hd
    | some d => rw [hu] at h hd; cases d <;> simp_all
  obtain ⟨cs, rfl, hs, ts', hts', _, hc⟩ := h'
  rw [hts] at hts'
  injection hts' with hts'
  subst hts'
  refine ⟨cs.toList, by simp, cellsOk_of ts cs.toList (by simp [hs, hn]) (fun i v hi => ?_)⟩
  have hi' : cs[i]? = some v := by simpa using hi
  obtain ⟨u, h1, h2⟩ := hc i v hi'
  have hlt : i < ts.length := by have := (Array.getElem?_eq_some_iff.1 hi').1; omega
  rw [Nat.mod_eq_of_lt hlt] at h1
  exact ⟨u, h1, h2⟩

theorem int_cell {t : TypeId} {k : IntKind} {c : Value} (hu : P.underlying t = some (.int k)) (h : Cell.okWide P W .any base t c) : ∃ n, c = .int k n ∧ k.min ≤ n ∧ n ≤ k.max := by
  unfold Cell.okWide at h
  rw [hu] at h
  unfold Cell.ok at h
  rw [hu] at h
  cases c <;> simp_all [IntKind.has]
theorem string_cell {t : TypeId} {c : Value} (hu : P.underlying t = some .string) (h : Cell.okWide P W .any base t c) : ∃ s : ByteArray, c = .string s ∧ s.size ≤ maxLen := by
  unfold Cell.okWide at h
  rw [hu] at h
  unfold Cell.ok at h
  rw [hu] at h
  cases c <;> simp_all [IntKind.max, IntKind.signed, IntKind.bits, maxLen]
  omega
theorem i64_cell {t : TypeId} {c : Value} (hu : P.underlying t = some (.int .i64)) (h : Cell.okWide P W .any base t c) : ∃ n, c = .int .i64 n ∧ i64R n := by
  obtain ⟨n, e, h1, h2⟩ := int_cell hu h
  refine ⟨n, e, ?_⟩
  simp [IntKind.min, IntKind.max, IntKind.signed, IntKind.bits] at h1 h2
  unfold i64R; omega
theorem u64_cell {t : TypeId} {c : Value} (hu : P.underlying t = some (.int .u64)) (h : Cell.okWide P W .any base t c) : ∃ n, c = .int .u64 n ∧ u64R n := by
  obtain ⟨n, e, h1, h2⟩ := int_cell hu h
  refine ⟨n, e, ?_⟩
  simp [IntKind.min, IntKind.max, IntKind.signed, IntKind.bits] at h1 h2
  unfold u64R; omega
theorem bytes_cells {t : TypeId} (hu : P.underlying t = some (.int .u8)) : ∀ (n : Nat) (ts : List TypeId) (cs : List Value), CellsOk P W base (List.replicate n t ++ ts) cs →
    ∃ l rest, cs = Lib.byteCells l ++ rest ∧ l.length = n ∧ CellsOk P W base ts rest
  | 0, ts, cs, h => ⟨[], cs, rfl, rfl, h⟩
  | n + 1, ts, [], h => by simp [List.replicate_succ, CellsOk] at h
  | n + 1, ts, c :: cs, h => by
    rw [List.replicate_succ, List.cons_append] at h
    obtain ⟨h1, h2⟩ := h
    obtain ⟨x, rfl, hx1, hx2⟩ := int_cell hu h1
    obtain ⟨l, rest, rfl, hl, hr⟩ := bytes_cells hu n ts cs h2
    simp [IntKind.min, IntKind.max, IntKind.signed, IntKind.bits] at hx1 hx2
    refine ⟨UInt8.ofNat x.toNat :: l, rest, ?_, by simp [hl], hr⟩
    have e : ((UInt8.ofNat x.toNat).toNat : Int) = x := by
      rw [UInt8.toNat_ofNat']; omega
    show Value.int .u8 x :: (Lib.byteCells l ++ rest) = Value.int .u8 ((UInt8.ofNat x.toNat).toNat : Int) :: (Lib.byteCells l ++ rest)
    rw [e]
theorem cellsOk_cons {t : TypeId} {ts : List TypeId} {cs : List Value} (h : CellsOk P W base (t :: ts) cs) : ∃ c rest, cs = c :: rest ∧ Cell.okWide P W .any base t c ∧ CellsOk P W base ts rest := by
  cases cs with
  | nil => exact h.elim
  | cons c cs => exact ⟨c, cs, rfl, h⟩
theorem cellsOk_nil {cs : List Value} (h : CellsOk P W base [] cs) : cs = [] := by
  cases cs with
  | nil => rfl
  | cons c cs => exact h.elim
end

end Go.Proofs.YtaffpgafbjhahaaDoor
