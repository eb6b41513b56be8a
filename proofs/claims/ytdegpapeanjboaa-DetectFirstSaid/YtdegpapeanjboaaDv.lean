/- Plain law: where a witness parts from a trace. -/
import Derived.Test.YtdegpapeanjboaaLts
import Derived.Test.YtdegpapeanjboaaEq
namespace Go.Proofs.Ytdegpapeanjboaa
open Go.RowKit
set_option maxRecDepth 100000

def atL (l : List LtR) (h : Int) : Option LtR := l.find? (fun x => decide (x.header.height = h))
def likesO (o : Option LtR) (x : LtR) : Bool := match o with
  | some y => VEq y.header.cells x.header.cells
  | none => false
def partsO (o : Option LtR) (x : LtR) : Bool := match o with
  | some y => !VEq y.header.cells x.header.cells
  | none => false
def restL (wit : List LtR) : List LtR → Nat → Nat × Int
  | [], _ => (0, 171)
  | x :: xs, i => if partsO (atL wit x.header.height) x = true then (i, 0) else restL wit xs (i + 1)
def divL (tr wit : List LtR) : Nat × Int := match tr with
  | [] => (0, 1)
  | x :: xs => if likesO (atL wit x.header.height) x = true then restL wit xs 1 else (0, 191)

theorem divL_cons (x : LtR) (xs wit : List LtR) : divL (x :: xs) wit = if likesO (atL wit x.header.height) x = true then restL wit xs 1 else (0, 191) := rfl
theorem header_refl (d : HeaderD) : VEq d.cells d.cells = true := by
  have hs : ∀ s : ByteArray, KEq (.string s) (.string s) = true := fun s => by simp [KEq]
  unfold HeaderD.cells
  rw [VEq.append rfl, VEq.append rfl, VEq.append rfl, VEq.append rfl, VEq.append rfl, VEq.bytes, VEq.bytes, VEq.bytes, VEq.bytes, VEq.bytes]
  simp [VEq, KEq]

section
variable (wit : List LtR)
theorem restL_none : ∀ (xs : List LtR) (i : Nat), (∀ x ∈ xs, partsO (atL wit x.header.height) x = false) → restL wit xs i = (0, 171)
  | [], _, _ => rfl
  | x :: xs, i, h => by
    unfold restL
    rw [if_neg (by rw [h x (by simp)]; simp)]
    exact restL_none xs (i + 1) (fun y hy => h y (by simp [hy]))
theorem restL_some : ∀ (xs : List LtR) (i j : Nat) (hj : j < xs.length), partsO (atL wit xs[j].header.height) xs[j] = true → (∀ k (hk : k < j), partsO (atL wit (xs[k]'(by omega)).header.height) (xs[k]'(by omega)) = false) → restL wit xs i = (i + j, 0)
  | [], _, j, hj, _, _ => by simp at hj
  | x :: xs, i, 0, _, h, _ => by
    unfold restL
    rw [if_pos (by simpa using h)]; rfl
  | x :: xs, i, j + 1, hj, h, hk => by
    unfold restL
    have h0 := hk 0 (by omega)
    rw [if_neg (by simp only [List.getElem_cons_zero] at h0; rw [h0]; simp)]
    rw [restL_some xs (i + 1) j (by simpa using hj) (by simpa using h) (fun k hk2 => by simpa using hk (k + 1) (by omega))]
    rw [show i + 1 + j = i + (j + 1) by omega]
theorem restL_cases : ∀ (xs : List LtR) (i : Nat), (restL wit xs i = (0, 171) ∧ ∀ x ∈ xs, partsO (atL wit x.header.height) x = false) ∨
    ∃ (j : Nat) (hj : j < xs.length), partsO (atL wit xs[j].header.height) xs[j] = true ∧ (∀ k (hk : k < j), partsO (atL wit (xs[k]'(by omega)).header.height) (xs[k]'(by omega)) = false) ∧ restL wit xs i = (i + j, 0)
  | [], i => Or.inl ⟨rfl, by simp⟩
  | x :: xs, i => by
    cases hp : partsO (atL wit x.header.height) x with
    | true => exact Or.inr ⟨0, by simp, by simpa using hp, fun k hk => by omega, by unfold restL; rw [if_pos hp]; rfl⟩
    | false =>
      rcases restL_cases xs (i + 1) with ⟨h1, h2⟩ | ⟨j, hj, h1, h2, h3⟩
      · refine Or.inl ⟨by unfold restL; rw [if_neg (by rw [hp]; simp), h1], fun y hy => ?_⟩
        rcases List.mem_cons.1 hy with rfl | hy
        · exact hp
        · exact h2 y hy
      · refine Or.inr ⟨j + 1, by simpa using hj, by simpa using h1, fun k hk => ?_, ?_⟩
        · cases k with
          | zero => simpa using hp
          | succ k => simpa using h2 k (by omega)
        · unfold restL; rw [if_neg (by rw [hp]; simp), h3, show i + 1 + j = i + (j + 1) by omega]
end
theorem atL_some {l : List LtR} {h : Int} {y : LtR} (e : atL l h = some y) : y ∈ l ∧ y.header.height = h := by
  unfold atL at e
  exact ⟨List.mem_of_find?_eq_some e, by have := List.find?_some e; simpa using this⟩
theorem partsO_some {o : Option LtR} {x : LtR} (h : partsO o x = true) : ∃ y, o = some y ∧ VEq y.header.cells x.header.cells = false := by
  cases o with
  | none => simp [partsO] at h
  | some y => exact ⟨y, rfl, by simpa [partsO] using h⟩

/-- WHERE THEY PART -/
theorem div_ok (tr wit : List LtR) (h : (divL tr wit).2 = 0) : 1 ≤ (divL tr wit).1 ∧ ∃ hn : (divL tr wit).1 < tr.length, (divL (tr.take (divL tr wit).1) wit).2 = 171 ∧ (divL (tr.take ((divL tr wit).1 + 1)) wit).2 = 0 ∧
    ∃ (i : Nat) (hi : i < wit.length), wit[i].header.height = (tr[(divL tr wit).1]).header.height ∧ VEq wit[i].header.cells (tr[(divL tr wit).1]).header.cells = false := by
  cases tr with
  | nil => simp [divL] at h
  | cons x xs =>
    cases hl : likesO (atL wit x.header.height) x with
    | false => simp [divL, hl] at h
    | true =>
      have ed : divL (x :: xs) wit = restL wit xs 1 := by rw [divL_cons, if_pos hl]
      rcases restL_cases wit xs 1 with ⟨h1, _⟩ | ⟨j, hj, h1, h2, h3⟩
      · rw [ed, h1] at h; simp at h
      · have e1 : (divL (x :: xs) wit).1 = j + 1 := by rw [ed, h3]; show 1 + j = j + 1; omega
        obtain ⟨y, hy, hv⟩ := partsO_some h1
        obtain ⟨hm, hh⟩ := atL_some hy
        obtain ⟨i, hi, rfl⟩ := List.getElem_of_mem hm
        refine ⟨by omega, by rw [e1]; simpa using hj, ?_, ?_, i, hi, ?_, ?_⟩
        · rw [e1, List.take_succ_cons]
          rw [divL_cons, if_pos hl, restL_none]
          intro z hz
          obtain ⟨k, hk, rfl⟩ := List.getElem_of_mem hz
          have hk' : k < j := by simp at hk; omega
          rw [List.getElem_take]
          exact h2 k hk'
        · rw [e1, List.take_succ_cons]
          rw [divL_cons, if_pos hl, restL_some wit _ 1 j (by simp; omega) (by rw [List.getElem_take]; exact h1) (fun k hk => by rw [List.getElem_take]; exact h2 k hk)]
        · have : ∀ n (hn : n < (x :: xs).length), n = j + 1 → (x :: xs)[n] = xs[j] := by rintro n hn rfl; rfl
          rw [this _ _ e1]; exact hh
        · have : ∀ n (hn : n < (x :: xs).length), n = j + 1 → (x :: xs)[n] = xs[j] := by rintro n hn rfl; rfl
          rw [this _ _ e1]; exact hv
theorem div_not (tr wit : List LtR) (h : (divL tr wit).2 ≠ 0) : (divL tr wit).1 = 0 := by
  cases tr with
  | nil => rfl
  | cons x xs =>
    unfold divL at h ⊢
    dsimp only at h ⊢
    split
    · rename_i hl
      rw [if_pos hl] at h
      rcases restL_cases wit xs 1 with ⟨h1, _⟩ | ⟨j, _, _, _, h3⟩
      · rw [h1]
      · rw [h3] at h; simp at h
    · rfl
/-- heights that rise -/
def Rise (tr : List LtR) : Prop := ∀ i (h : i + 1 < tr.length), (tr[i]'(by omega)).header.height < tr[i + 1].header.height
theorem Rise.lt {tr : List LtR} (h : Rise tr) : ∀ (d i : Nat) (hi : i + d + 1 < tr.length), (tr[i]'(by omega)).header.height < (tr[i + d + 1]).header.height
  | 0, i, hi => h i hi
  | d + 1, i, hi => Int.lt_trans (Rise.lt h d i (by omega)) (h (i + d + 1) hi)
theorem Rise.inj {tr : List LtR} (h : Rise tr) (i j : Nat) (hi : i < tr.length) (hj : j < tr.length) (e : tr[i].header.height = tr[j].header.height) : i = j := by
  rcases Nat.lt_trichotomy i j with hlt | heq | hgt
  · have := h.lt (j - i - 1) i (by omega)
    have e2 : tr[i + (j - i - 1) + 1]'(by omega) = tr[j] := by congr 1; omega
    rw [e2] at this; omega
  · exact heq
  · have := h.lt (i - j - 1) j (by omega)
    have e2 : tr[j + (i - j - 1) + 1]'(by omega) = tr[i] := by congr 1; omega
    rw [e2] at this; omega
theorem atL_self {tr : List LtR} (h : Rise tr) {x : LtR} (hx : x ∈ tr) : atL tr x.header.height = some x := by
  cases e : atL tr x.header.height with
  | none =>
    unfold atL at e
    have := List.find?_eq_none.1 e x hx
    simp at this
  | some y =>
    obtain ⟨hy, hh⟩ := atL_some e
    obtain ⟨i, hi, rfl⟩ := List.getElem_of_mem hy
    obtain ⟨j, hj, rfl⟩ := List.getElem_of_mem hx
    have := h.inj i j hi hj hh
    subst this; rfl
theorem div_self (tr : List LtR) (hr : Rise tr) (h0 : tr ≠ []) : (divL tr tr).2 = 171 := by
  cases tr with
  | nil => exact absurd rfl h0
  | cons x xs =>
    have h1 : likesO (atL (x :: xs) x.header.height) x = true := by rw [atL_self hr (by simp)]; exact header_refl _
    unfold divL
    dsimp only
    rw [if_pos h1, restL_none]
    intro z hz
    rw [atL_self hr (by simp [hz])]
    simp [partsO, header_refl]

end Go.Proofs.Ytdegpapeanjboaa
