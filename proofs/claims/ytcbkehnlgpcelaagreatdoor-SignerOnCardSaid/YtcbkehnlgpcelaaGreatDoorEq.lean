/- '==' on structs and arrays of plain cells: cell by cell. Of no program. -/
import Derived.Test.YtcbkehnlgpcelaaGreatDoorBase
import Derived.ChangeKeysEq
namespace Go.Proofs.YtcbkehnlgpcelaaGreatDoor
open Go.RowKit
set_option maxRecDepth 100000

def sameK : Value → Value → Bool
  | .bool _, .bool _ => true
  | .int k _, .int k' _ => k == k'
  | .string _, .string _ => true
  | _, _ => false
def KEq : Value → Value → Bool
  | .bool a, .bool b => a == b
  | .int _ a, .int _ b => a == b
  | .string a, .string b => a.toList == b.toList
  | _, _ => false
def VEq : List Value → List Value → Bool
  | [], [] => true
  | x :: xs, y :: ys => KEq x y && VEq xs ys
  | _, _ => false
def Fits : List Value → List Value → Bool
  | [], [] => true
  | k :: ks, x :: xs => sameK k x && Fits ks xs
  | _, _ => false
theorem Fits.len : ∀ {ks xs : List Value}, Fits ks xs = true → xs.length = ks.length
  | [], [], _ => rfl
  | k :: ks, x :: xs, h => by simp [Fits] at h; simp [Fits.len h.2]
  | [], _ :: _, h => by simp [Fits] at h
  | _ :: _, [], h => by simp [Fits] at h
theorem Fits.append : ∀ {a b xs ys : List Value}, Fits a xs = true → Fits b ys = true → Fits (a ++ b) (xs ++ ys) = true
  | [], _, [], _, _, h => h
  | k :: ks, b, x :: xs, ys, h, h2 => by
    simp only [Fits, Bool.and_eq_true] at h
    simp only [List.cons_append, Fits, Bool.and_eq_true]
    exact ⟨h.1, Fits.append h.2 h2⟩
  | [], _, _ :: _, _, h, _ => by simp [Fits] at h
  | _ :: _, _, [], _, h, _ => by simp [Fits] at h
theorem Fits.split : ∀ {a b xs : List Value}, Fits (a ++ b) xs = true → ∃ x1 x2, xs = x1 ++ x2 ∧ Fits a x1 = true ∧ Fits b x2 = true
  | [], b, xs, h => ⟨[], xs, rfl, rfl, h⟩
  | k :: ks, b, x :: xs, h => by
    simp only [List.cons_append, Fits, Bool.and_eq_true] at h
    obtain ⟨x1, x2, e, h1, h2⟩ := Fits.split h.2
    exact ⟨x :: x1, x2, by simp [e], by simp [Fits, h.1, h1], h2⟩
  | _ :: _, _, [], h => by simp [Fits] at h
theorem VEq.append : ∀ {a b c d : List Value}, a.length = b.length → VEq (a ++ c) (b ++ d) = (VEq a b && VEq c d)
  | [], [], _, _, _ => by simp [VEq]
  | x :: xs, y :: ys, c, d, h => by
    simp only [List.cons_append, VEq]
    rw [VEq.append (by simpa using h), Bool.and_assoc]
  | [], _ :: _, _, _, h => by simp at h
  | _ :: _, [], _, _, h => by simp at h
theorem Fits.bytes (l : List UInt8) : Fits (List.replicate l.length (.int .u8 0)) (Lib.byteCells l) = true := by
  induction l with
  | nil => rfl
  | cons c l ih => simp only [List.length_cons, List.replicate_succ, Lib.byteCells, List.map_cons, Fits, Bool.and_eq_true]; exact ⟨rfl, ih⟩
theorem VEq.bytes : ∀ (a b : List UInt8), VEq (Lib.byteCells a) (Lib.byteCells b) = (a == b)
  | [], [] => rfl
  | x :: xs, y :: ys => by
    have ih := VEq.bytes xs ys
    simp only [Lib.byteCells, List.map_cons, VEq, KEq] at ih ⊢
    rw [ih, List.cons_beq_cons]
    congr 1
    rw [Bool.eq_iff_iff, beq_iff_eq, beq_iff_eq]
    constructor
    · intro h; exact UInt8.toNat_inj.1 (by omega)
    · intro h; rw [h]
  | [], _ :: _ => rfl
  | _ :: _, [] => rfl

section
variable {P : Program}

def flatFields (g : TypeId → Option (List Value)) : List Field → Nat → Option (List Value)
  | [], _ => some []
  | f :: fs, o =>
    if f.name = "_" ∨ f.offset ≠ o then none
    else match g f.type with
      | none => none
      | some ks => match flatFields g fs (o + ks.length) with | none => none | some r => some (ks ++ r)
/-- the cells' kinds of a type of plain cells -/
def flat (P : Program) : Nat → TypeId → Option (List Value)
  | 0, _ => none
  | m + 1, t =>
    match P.underlying t with
    | some .bool => some [.bool false]
    | some (.int k) => some [.int k 0]
    | some .string => some [.string ⟨#[]⟩]
    | some (.struct fs) =>
      if P.stoodInHeld t = true then none
      else match flatFields (flat P m) fs.toList 0 with
        | none => none
        | some ks => if (P.info? t).map (·.size) = some ks.length then some ks else none
    | some (.array n e) =>
      match flat P m e with
      | none => none
      | some ks => if (P.info? t).map (·.size) = some (List.replicate n ks).flatten.length ∧ (P.info? e).map (·.size) = some ks.length then some (List.replicate n ks).flatten else none
    | _ => none

def pack (P : Program) (t : TypeId) (xs : List Value) : Value :=
  match P.underlying t with
  | some (.struct _) | some (.array _ _) => .agg xs.toArray
  | _ => xs.headD (.tuple #[])

theorem part_flat (w : World) {m : Nat} {t : TypeId} {ks : List Value} (h : flat P m t = some ks) (pre seg post : List Value) (hf : Fits ks seg = true) (off : Nat) (ho : off = pre.length) :
    (part t (pre ++ (seg ++ post)).toArray off).run P w = .ok (pack P t seg) w := by
  have hl := Fits.len hf
  subst ho
  cases m with
  | zero => simp [flat] at h
  | succ m =>
    have hagg : ∀ d, P.underlying t = some d → (match d with | .struct _ | .array _ _ => true | _ => false) = true → (P.info? t).map (·.size) = some ks.length → (part t (pre ++ (seg ++ post)).toArray pre.length).run P w = .ok (.agg seg.toArray) w := by
      intro d hu hd hi
      have ha : (isAgg t).run P w = .ok true w := by
        unfold isAgg
        rw [Sem.run_bind, run_underlying hu w]
        cases d <;> simp_all
      cases hq : P.info? t with
      | none => simp [hq] at hi
      | some i =>
        have hs : i.size = ks.length := by simpa [hq] using hi
        have he : (pre ++ (seg ++ post)).toArray.extract pre.length (pre.length + ks.length) = seg.toArray := by
          apply Array.ext'
          simp [← hl]
        have hz : (sizeOf t).run P w = .ok ks.length w := by simp [sizeOf, typeInfo, hq, hs]
        simp only [part, Sem.run_bind, ha, Result.andThen_ok, if_true, hz, Sem.run_pure, he]
    have hplain : ∀ d x, P.underlying t = some d → (match d with | .struct _ | .array _ _ => true | _ => false) = false → seg = [x] → (part t (pre ++ (seg ++ post)).toArray pre.length).run P w = .ok x w := by
      intro d x hu hd hx
      have ha : (isAgg t).run P w = .ok false w := by
        unfold isAgg
        rw [Sem.run_bind, run_underlying hu w]
        cases d <;> simp_all
      subst hx
      simp [part, Sem.run_bind, ha]
    unfold flat at h
    unfold pack
    cases hu : P.underlying t with
    | none => simp [hu] at h
    | some d =>
      cases d with
      | bool =>
        simp [hu] at h; subst h
        obtain ⟨x, hx⟩ := List.length_eq_one_iff.1 hl
        rw [hplain _ x hu rfl hx, hx]; rfl
      | int k =>
        simp [hu] at h; subst h
        obtain ⟨x, hx⟩ := List.length_eq_one_iff.1 hl
        rw [hplain _ x hu rfl hx, hx]; rfl
      | string =>
        simp [hu] at h; subst h
        obtain ⟨x, hx⟩ := List.length_eq_one_iff.1 hl
        rw [hplain _ x hu rfl hx, hx]; rfl
      | struct fs =>
        simp only [hu] at h
        split at h
        · cases h
        · split at h
          · cases h
          · split at h
            · rename_i hi; injection h with h; subst h; exact hagg _ hu rfl hi
            · cases h
      | array n e =>
        simp only [hu] at h
        split at h
        · cases h
        · split at h
          · rename_i hi; injection h with h; subst h; exact hagg _ hu rfl hi.1
          · cases h
      | _ => simp [hu] at h

def EqAt (P : Program) (d : Nat) (t : TypeId) (ks : List Value) : Prop :=
  ∀ xs ys w, Fits ks xs = true → Fits ks ys = true → (Op.equalIn d t (pack P t xs) (pack P t ys)).run P w = .ok (VEq xs ys) w

theorem eqFields_flat (m d : Nat) (IH : ∀ t ks, flat P m t = some ks → EqAt P d t ks) : ∀ (fs : List Field) (o : Nat) (ks : List Value), flatFields (flat P m) fs o = some ks →
    ∀ (px py xs ys : List Value) (w : World), o = px.length → o = py.length → Fits ks xs = true → Fits ks ys = true → (Op.eqFields d (px ++ xs).toArray (py ++ ys).toArray fs).run P w = .ok (VEq xs ys) w
  | [], o, ks, h, px, py, xs, ys, w, _, _, hx, hy => by
    simp [flatFields] at h; subst h
    match xs, ys, hx, hy with
    | [], [], _, _ => simp [Op.eqFields, VEq]
  | f :: fs, o, ks, h, px, py, xs, ys, w, ex, ey, hx, hy => by
    unfold flatFields at h
    split at h
    · cases h
    · rename_i hn
      have hname : f.name ≠ "_" := fun e => hn (Or.inl e)
      have hoff : f.offset = o := by by_cases e : f.offset = o; exact e; exact absurd (Or.inr e) hn
      split at h
      · cases h
      · rename_i k1 hk1
        split at h
        · cases h
        · rename_i r hr
          injection h with h; subst h
          obtain ⟨x1, x2, rfl, hx1, hx2⟩ := Fits.split hx
          obtain ⟨y1, y2, rfl, hy1, hy2⟩ := Fits.split hy
          have lx := Fits.len hx1; have ly := Fits.len hy1
          have p1 := part_flat w hk1 px x1 x2 hx1 f.offset (by rw [hoff, ex])
          have p2 := part_flat w hk1 py y1 y2 hy1 f.offset (by rw [hoff, ey])
          have e1 := IH f.type k1 hk1 x1 y1 w hx1 hy1
          have ih := eqFields_flat m d IH fs (o + k1.length) r hr (px ++ x1) (py ++ y1) x2 y2 w (by simp [lx, ex]) (by simp [ly, ey]) hx2 hy2
          rw [List.append_assoc, List.append_assoc] at ih
          rw [VEq.append (lx.trans ly.symm)]
          simp only [Op.eqFields, if_pos hname, Sem.run_bind, p1, p2, e1, Result.andThen_ok]
          cases VEq x1 y1
          · simp
          · simp only [Bool.not_true, Bool.false_eq_true, if_false, Bool.true_and]; exact ih

theorem eqItems_flat (m d : Nat) (e : TypeId) (ks : List Value) (hk : flat P m e = some ks) (IH : EqAt P d e ks) (hc : P.cellsOf e = ks.length) : ∀ (n s : Nat) (px py xs ys : List Value) (w : World), s * ks.length = px.length → s * ks.length = py.length →
    Fits (List.replicate n ks).flatten xs = true → Fits (List.replicate n ks).flatten ys = true → (Op.eqItems d e (P.cellsOf e) (px ++ xs).toArray (py ++ ys).toArray (List.range' s n)).run P w = .ok (VEq xs ys) w
  | 0, s, px, py, xs, ys, w, _, _, hx, hy => by
    match xs, ys, hx, hy with
    | [], [], _, _ => simp [Op.eqItems, VEq]
  | n + 1, s, px, py, xs, ys, w, ex, ey, hx, hy => by
    rw [List.replicate_succ, List.flatten_cons] at hx hy
    obtain ⟨x1, x2, rfl, hx1, hx2⟩ := Fits.split hx
    obtain ⟨y1, y2, rfl, hy1, hy2⟩ := Fits.split hy
    have lx := Fits.len hx1; have ly := Fits.len hy1
    have p1 := part_flat w hk px x1 x2 hx1 (s * P.cellsOf e) (by rw [hc, ex])
    have p2 := part_flat w hk py y1 y2 hy1 (s * P.cellsOf e) (by rw [hc, ey])
    have e1 := IH x1 y1 w hx1 hy1
    have ih := eqItems_flat m d e ks hk IH hc n (s + 1) (px ++ x1) (py ++ y1) x2 y2 w (by rw [Nat.succ_mul]; simp [lx, ex]) (by rw [Nat.succ_mul]; simp [ly, ey]) hx2 hy2
    rw [List.append_assoc, List.append_assoc] at ih
    rw [VEq.append (lx.trans ly.symm), List.range'_succ]
    simp only [Op.eqItems, Sem.run_bind, p1, p2, e1, Result.andThen_ok]
    cases VEq x1 y1
    · simp
    · simp only [Bool.not_true, Bool.false_eq_true, if_false, Bool.true_and]; exact ih

theorem eq_flat : ∀ (m d : Nat) (t : TypeId) (ks : List Value), flat P m t = some ks → EqAt P (d + m) t ks
  | 0, _, _, _, h => by simp [flat] at h
  | m + 1, d, t, ks, h => by
    intro xs ys w hx hy
    have lx := Fits.len hx; have ly := Fits.len hy
    rw [show d + (m + 1) = (d + m) + 1 from rfl]
    unfold flat at h
    unfold pack
    cases hu : P.underlying t with
    | none => simp [hu] at h
    | some desc =>
      cases desc with
      | bool =>
        simp [hu] at h; subst h
        match xs, ys, lx, ly, hx, hy with
        | [.bool a], [.bool b], _, _, _, _ => simp [run_equalIn_bool w _ t a b hu, VEq, KEq]
      | int k =>
        simp [hu] at h; subst h
        match xs, ys, lx, ly, hx, hy with
        | [.int k1 a], [.int k2 b], _, _, hx, hy =>
          have h1 : k = k1 := by simpa [Fits, sameK] using hx
          have h2 : k = k2 := by simpa [Fits, sameK] using hy
          subst h1 h2
          simp [run_equalIn_int w _ t k k a b hu, VEq, KEq]
      | string =>
        simp [hu] at h; subst h
        match xs, ys, lx, ly, hx, hy with
        | [.string a], [.string b], _, _, _, _ => simp [run_equalIn_string w _ t a b hu, VEq, KEq]
      | struct fs =>
        simp only [hu] at h
        split at h
        · cases h
        · rename_i hst
          split at h
          · cases h
          · rename_i r hr
            split at h
            · injection h with h; subst h
              have hf : P.fieldsOf t = fs := by simp [Program.fieldsOf, hu]
              rw [run_equalIn_struct w (d + m) t xs.toArray ys.toArray (by rw [hf]; exact hu) (by simpa using hst), hf]
              exact eqFields_flat m (d + m) (fun t ks h => eq_flat m d t ks h) fs.toList 0 r hr [] [] xs ys w rfl rfl hx hy
            · cases h
      | array n e =>
        simp only [hu] at h
        split at h
        · cases h
        · rename_i k1 hk1
          split at h
          · rename_i hi; injection h with h; subst h
            cases hq : P.info? e with
            | none => simp [hq] at hi
            | some i =>
              have hc : P.cellsOf e = k1.length := by simp [Program.cellsOf, hi.2]
              rw [run_equalIn_array w (d + m) xs.toArray ys.toArray hu hq, List.range_eq_range']
              exact eqItems_flat m (d + m) e k1 hk1 (eq_flat m d e k1 hk1) hc n 0 [] [] xs ys w (by simp) (by simp) hx hy
          · cases h
      | _ => simp [hu] at h

/-- '==' on two structs or arrays of plain cells -/
theorem run_eql_flat {t : TypeId} {ks : List Value} (h : flat P 20 t = some ks) (xs ys : List Value) (w : World) (hx : Fits ks xs = true) (hy : Fits ks ys = true)
    (hd : (P.underlying t).map (fun d => match d with | .struct _ | .array _ _ => true | _ => false) = some true) :
    (binOp .eql t (.agg xs.toArray) (.agg ys.toArray)).run P w = .ok (.bool (VEq xs ys)) w ∧ (binOp .neq t (.agg xs.toArray) (.agg ys.toArray)).run P w = .ok (.bool (!VEq xs ys)) w := by
  have e := eq_flat (P := P) 20 9980 t ks h xs ys w hx hy
  have hp : ∀ zs : List Value, pack P t zs = .agg zs.toArray := by
    intro zs
    unfold pack
    cases hu : P.underlying t with
    | none => simp [hu] at hd
    | some d => cases d <;> simp_all
  rw [hp, hp] at e
  rw [run_eql_struct, run_neq_struct, e]
  exact ⟨rfl, rfl⟩

/-- the arms: '==' and '!=' on two such values -/
theorem wpList_eql_flat {ops : Array Oper} {rest : List Oper} {o : Oper} {a : Act} {w : World} {Q : Exit → Act → World → Prop} (hgd : Region.wanted o (yielded ops a.tmps) = true) (t u : TypeId) (x y : Operand) (ho : o.op = .binOp .eql t x y u)
    (xs ys ks : List Value) (hx : a.eval x = .agg xs.toArray) (hy : a.eval y = .agg ys.toArray) (h : flat P 20 t = some ks) (fx : Fits ks xs = true) (fy : Fits ks ys = true)
    (hd : (P.underlying t).map (fun d => match d with | .struct _ | .array _ _ => true | _ => false) = some true) (hm : P.eqGuardType P.depth t = false)
    (hk : wpList P ops Q rest (a.put o.dst (.bool (VEq xs ys))) w) : wpList P ops Q (o :: rest) a w := by
  refine wpList_wanted hgd fun K hK => ?_
  unfold Oper.wp execOp
  simp only [ho, hx, hy, Sem.run_bind, Sem.run_pure, Result.andThen_ok, run_eqGuard_agg w .eql t x y xs.toArray ys.toArray hm, (run_eql_flat h xs ys w fx fy hd).1]
  exact hK _ _ hk
theorem wpList_neq_flat {ops : Array Oper} {rest : List Oper} {o : Oper} {a : Act} {w : World} {Q : Exit → Act → World → Prop} (hgd : Region.wanted o (yielded ops a.tmps) = true) (t u : TypeId) (x y : Operand) (ho : o.op = .binOp .neq t x y u)
    (xs ys ks : List Value) (hx : a.eval x = .agg xs.toArray) (hy : a.eval y = .agg ys.toArray) (h : flat P 20 t = some ks) (fx : Fits ks xs = true) (fy : Fits ks ys = true)
    (hd : (P.underlying t).map (fun d => match d with | .struct _ | .array _ _ => true | _ => false) = some true) (hm : P.eqGuardType P.depth t = false)
    (hk : wpList P ops Q rest (a.put o.dst (.bool (!VEq xs ys))) w) : wpList P ops Q (o :: rest) a w := by
  refine wpList_wanted hgd fun K hK => ?_
  unfold Oper.wp execOp
  simp only [ho, hx, hy, Sem.run_bind, Sem.run_pure, Result.andThen_ok, run_eqGuard_agg w .neq t x y xs.toArray ys.toArray hm, (run_eql_flat h xs ys w fx fy hd).2]
  exact hK _ _ hk
end

end Go.Proofs.YtcbkehnlgpcelaaGreatDoor
