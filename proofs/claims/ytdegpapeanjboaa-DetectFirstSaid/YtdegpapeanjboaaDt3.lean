/- Walks: nunciolaw15.Few, nunciolaw17.few; '!=' of headers in a region that draws its order. -/
import Derived.Test.YtdegpapeanjboaaDt2
namespace Go.Proofs.Ytdegpapeanjboaa
open Go.RowKit
set_option maxRecDepth 100000

def fewLt (l : LtR) : Bool := decide ((l.tn : Int) ≤ 20) && (decide ((l.nn : Int) ≤ 20) && decide ((l.sn : Int) ≤ 20))
set_option maxHeartbeats 1000000 in
theorem Few_ok (x : LtR) (w : World) (hx : x.wf) : Calls Try.prog 12 #[.agg x.cells.toArray] w fun e w' => e = .returned (.bool (fewLt x)) ∧ w.grownBy w' none := by
  have HX := Lib.hid hx
  clear hx
  cases q1 : decide ((x.tn : Int) ≤ 20) with
  | false =>
    have E := Lib.hid (show fewLt x = false by unfold fewLt; rw [q1]; rfl)
    have d1 : decide ((x.tn : Int) ≤ 20) = false := q1
    clear q1
    go_enter Try.func12, Try.ntmps12
    go_wp2_with (first | (refine wpList_box_as rfl 38 _ rfl x.cells rfl ?_))
    intro w1 b1 g1 s1
    have c1 := LtR.set_at b1.row HX.out; have c2 := LtR.next_at b1.row HX.out; have c3 := LtR.seals_at b1.row HX.out
    rw [Nat.zero_add] at c1 c2 c3
    have G1 := Lib.hid g1
    clear b1 g1 s1
    go_wp2
    go_ret
    rw [E.out]
    exact ⟨rfl, G1.out⟩
  | true => 
    have d1 : decide ((x.tn : Int) ≤ 20) = true := q1
    cases q2 : decide ((x.nn : Int) ≤ 20) with
    | false =>
      have E := Lib.hid (show fewLt x = false by unfold fewLt; rw [q1, q2]; rfl)
      have d2 : decide ((x.nn : Int) ≤ 20) = false := q2
      clear q1 q2
      go_enter Try.func12, Try.ntmps12
      go_wp2_with (first | (refine wpList_box_as rfl 38 _ rfl x.cells rfl ?_))
      intro w1 b1 g1 s1
      have c1 := LtR.set_at b1.row HX.out; have c2 := LtR.next_at b1.row HX.out; have c3 := LtR.seals_at b1.row HX.out
      rw [Nat.zero_add] at c1 c2 c3
      have G1 := Lib.hid g1
      clear b1 g1 s1
      go_wp2
      go_ret
      rw [E.out]
      exact ⟨rfl, G1.out⟩
    | true =>
      have d2 : decide ((x.nn : Int) ≤ 20) = true := q2
      obtain ⟨q, hq⟩ : ∃ q, decide ((x.sn : Int) ≤ 20) = q := ⟨_, rfl⟩
      have E := Lib.hid (show fewLt x = q by unfold fewLt; rw [q1, q2, hq]; rfl)
      clear q1 q2
      go_enter Try.func12, Try.ntmps12
      go_wp2_with (first | (refine wpList_box_as rfl 38 _ rfl x.cells rfl ?_))
      intro w1 b1 g1 s1
      have c1 := LtR.set_at b1.row HX.out; have c2 := LtR.next_at b1.row HX.out; have c3 := LtR.seals_at b1.row HX.out
      rw [Nat.zero_add] at c1 c2 c3
      have G1 := Lib.hid g1
      clear b1 g1 s1
      go_wp2
      go_ret
      rw [E.out]
      exact ⟨rfl, G1.out⟩

def fewL (l : List LtR) : Bool := decide (l.length ≤ 14) && l.all fewLt
set_option maxHeartbeats 1000000 in
theorem few_ok {B : Nat} (v : Value) (ds : List LtR) (w : World) (hv : RdS B w v ds.length 200 (ltsCells ds)) (hB : B ≤ w.heap.size) (hw : ∀ d ∈ ds, d.wf) :
    Calls Try.prog 6 #[v] w fun e w' => e = .returned (.bool (fewL ds)) ∧ w.grownBy w' none := by
  have hlen := hv.le
  obtain ⟨ao, cp, rfl⟩ := hv.shape
  have HV := Lib.hid hv; have HB := Lib.hid hB; have HW := Lib.hid hw
  unfold maxLen at hlen
  clear hv hB hw
  by_cases hl : ds.length ≤ 14
  case neg =>
    have E := Lib.hid (show fewL ds = false by unfold fewL; simp [hl])
    have d1 : (14 : Int) < (ds.length : Int) := by omega
    clear hl
    go_enter Try.func6, Try.ntmps6
    go_wp2
    go_ret
    rw [E.out]
    exact ⟨rfl, World.grownBy.refl _ _⟩
  have HL := Lib.hid hl
  have d1 : ¬ (14 : Int) < (ds.length : Int) := by omega
  clear hl
  go_enter Try.func6, Try.ntmps6
  go_wp2
  go_loopw [3, 4] (fun i _ wr => ∃ k : Nat, k ≤ ds.length ∧ i = .int .i64 k ∧ (ds.take k).all fewLt = true ∧ w.grownBy wr none) (fun i _ _ => ds.length - (intOf i).toNat)
  case atStart => exact ⟨0, Nat.zero_le _, rfl, rfl, World.grownBy.refl _ _⟩
  case round =>
    obtain ⟨k, hk, rfl, hn, hg⟩ := hrel
    have Hn := Lib.hid hn; have Hg := Lib.hid hg; clear hn hg
    by_cases hlt : k < ds.length
    · obtain ⟨g, o, c, e, _, _, hgB, hr⟩ := HV.out.at_ (by omega)
      injection e with e1 e2 e3
      subst e1
      have R := Lib.hid (LtR.elem (hr.grown Hg.out (by simp)) HW.out k hlt)
      have hxw := HW.out ds[k] (List.getElem_mem hlt)
      have Hs := Lib.hid (List.take_succ_eq_append_getElem hlt)
      obtain ⟨x, hx⟩ : ∃ x, ds[k] = x := ⟨_, rfl⟩
      rw [hx] at R hxw Hs
      have Hx := Lib.hid hx; have Hxw := Lib.hid hxw
      clear hr hx hxw e3 d1
      go_wp2_with (refine wpList_load_part rfl 38 _ rfl g (o + k * 200) rfl x.cells _ R.out Try.underlying38 rfl (sizeLt x Hxw.out) ?_)
      refine (Few_ok x _ Hxw.out).mono ?_
      rintro e w2 ⟨rfl, g2⟩
      have G2 := Lib.hid (Lib.grownBy_trans Hg.out g2)
      clear g2
      obtain ⟨q, hq⟩ : ∃ q, fewLt x = q := ⟨_, rfl⟩
      rw [hq]
      have Hq := Lib.hid hq
      clear hq
      cases q with
      | false =>
        have E := Lib.hid (show fewL ds = false by
          unfold fewL
          rw [show ds.all fewLt = false from Bool.eq_false_iff.2 fun h => by
            have := List.all_eq_true.1 h ds[k] (List.getElem_mem hlt)
            rw [Hx.out, Hq.out] at this; cases this]
          simp)
        go_wp2
        go_ret
        rw [E.out]
        exact ⟨rfl, G2.out⟩
      | true =>
        go_wp2
        refine ⟨⟨k + 1, by omega, by go_num, ?_, G2.out⟩, by simp [intOf]; omega⟩
        rw [Hs.out, List.all_append, Hn.out]
        simp [Hq.out]
    · obtain rfl : k = ds.length := by omega
      have E := Lib.hid (show fewL ds = true by
        have := Hn.out
        rw [List.take_of_length_le (Nat.le_refl _)] at this
        unfold fewL; rw [this]; simp [HL.out])
      go_wp2
      go_ret
      rw [E.out]
      exact ⟨rfl, Hg.out⟩

/-- a load of an array or a struct, in a region that draws its order and only reads -/
theorem q_load_part {P : Program} {ops : Array Oper} {rest : List Oper} {o : Oper} {a : Act} {w : World} {Q : Act → Prop} (hgd : Region.wanted o (yielded ops a.tmps) = true) (ty : TypeId) (x : Operand) (ho : o.op = .load ty x)
    (g k : Nat) (hx : a.eval x = .pointer (some ⟨g, k, none⟩)) (vs : List Value) (d : TypeDesc) (hr : RowAt w g k vs)
    (hu : P.underlying ty = some d) (hd : (match d with | .struct _ | .array _ _ => true | _ => false) = true) (hi : (P.info? ty).map (·.size) = some vs.length)
    (h : wpQuiet P ops (fun w' => ∃ n, w' = w.drewN n) Q rest (a.put o.dst (.agg vs.toArray))) : wpQuiet P ops (fun w' => ∃ n, w' = w.drewN n) Q (o :: rest) a := by
  unfold wpQuiet
  rw [if_pos hgd]
  refine ⟨.agg vs.toArray, fun w' hw => ?_, h⟩
  obtain ⟨n, rfl⟩ := hw
  unfold Oper.quietAt execOp
  simp only [ho, hx, Instr.loadAt, Instr.sureAddr, Sem.run_bind, Sem.run_pure, Result.andThen_ok, run_loadVar_part (w.drewN n) g k ty vs d (hr.drewN n) hu hd hi]
  exact ⟨rfl, rfl⟩
/-- '==' in such a region -/
theorem q_eql_flat {P : Program} {ops : Array Oper} {rest : List Oper} {o : Oper} {a : Act} {w : World} {Q : Act → Prop} (hgd : Region.wanted o (yielded ops a.tmps) = true) (t u : TypeId) (x y : Operand) (ho : o.op = .binOp .eql t x y u)
    (xs ys ks : List Value) (hx : a.eval x = .agg xs.toArray) (hy : a.eval y = .agg ys.toArray) (h : flat P 20 t = some ks) (fx : Fits ks xs = true) (fy : Fits ks ys = true)
    (hd : (P.underlying t).map (fun d => match d with | .struct _ | .array _ _ => true | _ => false) = some true) (hm : P.eqGuardType P.depth t = false)
    (hk : wpQuiet P ops (fun w' => ∃ n, w' = w.drewN n) Q rest (a.put o.dst (.bool (VEq xs ys)))) : wpQuiet P ops (fun w' => ∃ n, w' = w.drewN n) Q (o :: rest) a := by
  unfold wpQuiet
  rw [if_pos hgd]
  refine ⟨.bool (VEq xs ys), fun w' hw => ?_, hk⟩
  unfold Oper.quietAt execOp
  simp only [ho, hx, hy, Sem.run_bind, Sem.run_pure, Result.andThen_ok, run_eqGuard_agg w' .eql t x y xs.toArray ys.toArray hm, (run_eql_flat h xs ys w' fx fy hd).1]
  exact ⟨rfl, rfl⟩
/-- '!=' in such a region -/
theorem q_neq_flat {P : Program} {ops : Array Oper} {rest : List Oper} {o : Oper} {a : Act} {w : World} {Q : Act → Prop} (hgd : Region.wanted o (yielded ops a.tmps) = true) (t u : TypeId) (x y : Operand) (ho : o.op = .binOp .neq t x y u)
    (xs ys ks : List Value) (hx : a.eval x = .agg xs.toArray) (hy : a.eval y = .agg ys.toArray) (h : flat P 20 t = some ks) (fx : Fits ks xs = true) (fy : Fits ks ys = true)
    (hd : (P.underlying t).map (fun d => match d with | .struct _ | .array _ _ => true | _ => false) = some true) (hm : P.eqGuardType P.depth t = false)
    (hk : wpQuiet P ops (fun w' => ∃ n, w' = w.drewN n) Q rest (a.put o.dst (.bool (!VEq xs ys)))) : wpQuiet P ops (fun w' => ∃ n, w' = w.drewN n) Q (o :: rest) a := by
  unfold wpQuiet
  rw [if_pos hgd]
  refine ⟨.bool (!VEq xs ys), fun w' hw => ?_, hk⟩
  unfold Oper.quietAt execOp
  simp only [ho, hx, hy, Sem.run_bind, Sem.run_pure, Result.andThen_ok, run_eqGuard_agg w' .neq t x y xs.toArray ys.toArray hm, (run_eql_flat h xs ys w' fx fy hd).2]
  exact ⟨rfl, rfl⟩

def kHead : List Value := [.string ⟨#[]⟩, .int .i64 0, .int .i64 0] ++ List.replicate 160 (.int .u8 0)
theorem head_flat : flat Try.prog 20 32 = some kHead := by kernel_rfl
theorem HeaderD.fit (v : HeaderD) (h : v.wf) : Fits kHead v.cells = true := by
  have e : v.cells = [.string v.chain, .int .i64 v.height, .int .i64 v.time] ++ Lib.byteCells (v.last ++ v.set ++ v.next ++ v.data ++ v.app) := by simp [HeaderD.cells, Lib.byteCells]
  have hb := Fits.bytes (v.last ++ v.set ++ v.next ++ v.data ++ v.app)
  rw [show (v.last ++ v.set ++ v.next ++ v.data ++ v.app).length = 160 by simp [h.last, h.set, h.next, h.data, h.app]] at hb
  rw [e]
  exact Fits.append rfl hb
theorem drewN_grown (w : World) (n : Nat) : w.grownBy (w.drewN n) none := ⟨rfl, rfl, rfl, Nat.le_refl _, fun _ _ _ => rfl⟩

end Go.Proofs.Ytdegpapeanjboaa
