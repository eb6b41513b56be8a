/- Walks: the methods of no tally; All, Power, Any of one. The keys of a tally's maps: what they read as. Walk: Tally.Power. What reads as a hash's key is a hash. Walk: Tally.Winner. -/
import Derived.Test.YtfnginmoiecgnaaDoorTn
import Derived.Test.YtfnginmoiecgnaaDoorHsh
import Derived.Test.YtfnginmoiecgnaaDoorDecL
import Derived.WideKeyEntry
import Derived.DeepKeys4
import Derived.ChangeKeysEq
namespace Go.Proofs.YtfnginmoiecgnaaDoor
open Go.RowKit
open Go.Maps (Keyed)
set_option maxRecDepth 100000

theorem Add_nil (v : VoteD) (w : World) (_hv : v.wf) : Calls Tryd.prog 20 #[.pointer none, .agg v.cells.toArray] w fun e w' => e = .returned (.int .i64 1) ∧ w.grownBy w' none := by
  clear _hv
  go_enter Tryd.func20, Tryd.ntmps20
  go_wp2_with (first | (refine wpList_box_as rfl 29 _ rfl v.cells rfl ?_))
  intro w1 b1 g1 s1
  have G1 := Lib.hid g1
  clear b1 g1 s1
  go_wp2_with fail
  go_ret
  exact ⟨rfl, G1.out⟩
theorem Power_nil (x : List UInt8) (w : World) : Calls Tryd.prog 22 #[.pointer none, .agg (Lib.byteCells x).toArray] w fun e w' => e = .returned (.int .i64 0) ∧ w.grownBy w' none := by
  go_enter Tryd.func22, Tryd.ntmps22
  go_wp2_with (first | (refine wpList_box_as rfl 25 _ rfl (Lib.byteCells x) rfl ?_))
  intro w1 b1 g1 s1
  have G1 := Lib.hid g1
  clear b1 g1 s1
  go_wp2_with fail
  go_ret
  exact ⟨rfl, G1.out⟩
theorem All_nil (w : World) : Calls Tryd.prog 23 #[.pointer none] w fun e w' => e = .returned (.int .i64 0) ∧ w = w' := by
  go_enter Tryd.func23, Tryd.ntmps23
  go_wp2_with fail
  go_ret
  exact ⟨rfl, rfl⟩
theorem Votes_nil (w : World) : Calls Tryd.prog 32 #[.pointer none] w fun e w' => e = .returned (.slice none 0 0) ∧ w = w' := by
  go_enter Tryd.func32, Tryd.ntmps32
  go_wp2_with fail
  go_ret
  exact ⟨rfl, rfl⟩
theorem Twice_nil (w : World) : Calls Tryd.prog 29 #[.pointer none] w fun e w' => e = .returned (.slice none 0 0) ∧ w = w' := by
  go_enter Tryd.func29, Tryd.ntmps29
  go_wp2_with fail
  go_ret
  exact ⟨rfl, rfl⟩
theorem Any_nil (w : World) : Calls Tryd.prog 24 #[.pointer none] w fun e w' => e = .returned (.bool false) ∧ w.grownBy w' none := by
  go_enter Tryd.func24, Tryd.ntmps24
  go_wp2_with fail
  go_quiet (fail)
  go_wp2_with fail
  go_ret
  exact ⟨rfl, dr_grown _ _⟩
theorem Winner_nil (w : World) : Calls Tryd.prog 21 #[.pointer none] w fun e w' => e = .returned (.tuple #[.agg ZH.toArray, .bool false]) ∧ w.grownBy w' none := by
  go_enter Tryd.func21, Tryd.ntmps21
  go_wp2_with (refine wpList_alloc_as rfl 25 rfl ZH ZH_info ?_)
  intro w1 b1 g1 s1
  have B1 := Lib.hid b1; have G1 := Lib.hid g1
  obtain ⟨b, hb⟩ : ∃ b, w.heap.size = b := ⟨_, rfl⟩
  rw [hb] at B1 ⊢
  have HB := Lib.hid hb
  clear b1 g1 s1 hb
  go_wp2_with (first | (refine wpList_build_eq rfl 25 _ rfl [] (by kernel_rfl) ZH bHash0 ?_) | (refine wpList_store_whole rfl 25 _ _ rfl b rfl ZH ZH 25 rfl B1.out rfl ZH_one (sizeH _ ZH_length) ?_))
  intro w2 g2 s2 b2
  have B2 := Lib.hid b2; have G2 := Lib.hid (grown_new G1.out g2 (by rw [HB.out]; exact Nat.le_refl _))
  clear b2 g2 s2
  go_wp2_with fail
  refine bodyPost_ret (results_cell_tmp rfl _ _ ⟨b, 0, none⟩ _ _ rfl rfl (run_loadVar_part _ _ _ 25 ZH _ B2.out.row Tryd.underlying25 rfl (sizeH _ ZH_length))) rfl ?_
  exact ⟨rfl, G2.out⟩
theorem bCommit00 : Tryd.prog.built 54 [] = some ZCommit.toArray := by kernel_rfl
theorem sizeZCommit : (Tryd.prog.info? 54).map (·.size) = some ZCommit.length := by kernel_rfl
theorem Commit_nil (w : World) : Calls Tryd.prog 30 #[.pointer none] w fun e w' => e = .returned (.tuple #[.agg ZCommit.toArray, .int .i64 1]) ∧ w.grownBy w' none := by
  go_enter Tryd.func30, Tryd.ntmps30
  go_wp2_with (refine wpList_alloc_as rfl 54 rfl ZCommit ZCommit_info ?_)
  intro w1 b1 g1 s1
  have B1 := Lib.hid b1; have G1 := Lib.hid g1
  obtain ⟨b, hb⟩ : ∃ b, w.heap.size = b := ⟨_, rfl⟩
  rw [hb] at B1 ⊢
  have HB := Lib.hid hb
  clear b1 g1 s1 hb
  go_wp2_with (first | (refine wpList_build_eq rfl 54 _ rfl [] (by kernel_rfl) ZCommit bCommit00 ?_) | (refine wpList_store_whole rfl 54 _ _ rfl b rfl ZCommit ZCommit 54 rfl B1.out rfl ZCommit_one sizeZCommit ?_))
  intro w2 g2 s2 b2
  have B2 := Lib.hid b2; have G2 := Lib.hid (grown_new G1.out g2 (by rw [HB.out]; exact Nat.le_refl _))
  clear b2 g2 s2
  go_wp2_with fail
  refine bodyPost_ret (results_cell_tmp rfl _ _ ⟨b, 0, none⟩ _ _ rfl rfl (run_loadVar_part _ _ _ 54 ZCommit _ B2.out.row Tryd.underlying54 rfl sizeZCommit)) rfl ?_
  exact ⟨rfl, G2.out⟩

theorem tl_len {sv : Value} {tot : Int} {of : VoteD} {bm bs : Nat} {all : Int} {tv : Value} (hv : of.wf) : (tlCells sv tot of bm bs all tv).length = 45 := by simp [tlCells, VoteD.cells_length of hv]
theorem tl_1 {sv : Value} {tot : Int} {of : VoteD} {bm bs : Nat} {all : Int} {tv : Value} : (tlCells sv tot of bm bs all tv)[1]? = some (.int .i64 tot) := by simp [tlCells]
theorem tl_tail {sv : Value} {tot : Int} {of : VoteD} {bm bs : Nat} {all : Int} {tv : Value} (hv : of.wf) (i : Nat) : (tlCells sv tot of bm bs all tv)[41 + i]? = [Value.map (some bm), .map (some bs), .int .i64 all, tv][i]? := by
  have e : tlCells sv tot of bm bs all tv = ([sv, .int .i64 tot] ++ of.cells) ++ [.map (some bm), .map (some bs), .int .i64 all, tv] := rfl
  rw [e, List.getElem?_append_right (by simp [VoteD.cells_length of hv])]
  congr 1
  simp [VoteD.cells_length of hv]
theorem All_ok (p : Nat) (ds : List ValD) (tot : Int) (of : VoteD) (bm bs : Nat) (all : Int) (tv : Value) (w : World) (hv : of.wf) (h : TlAt w p ds tot of bm bs all tv) :
    Calls Tryd.prog 23 #[.pointer (some ⟨p, 0, none⟩)] w fun e w' => e = .returned (.int .i64 all) ∧ w = w' := by
  obtain ⟨⟨sv, hb, _⟩, _⟩ := h
  have c := hb.row 43 _ (tl_tail hv 2)
  rw [Nat.zero_add] at c
  clear hb hv
  go_enter Tryd.func23, Tryd.ntmps23
  go_wp2_with fail
  go_ret
  exact ⟨rfl, rfl⟩

theorem mapM_some {α β : Type} (f : α → Option β) (g : α → β) : ∀ (l : List α), (∀ x ∈ l, f x = some (g x)) → l.mapM f = some (l.map g)
  | [], _ => rfl
  | x :: l, h => by
    rw [List.mapM_cons, h x (by simp), mapM_some f g l fun y hy => h y (by simp [hy])]
    rfl
/-- a hash, as a map's key -/
def hkL (x : List UInt8) : Lit := .string (keyBytes (x.map fun c => Lit.int .u8 (c.toNat : Int)))
theorem u8_lits (d : Nat) (c : UInt8) : Tryd.prog.keyLits (d + 1) 5 [.int .u8 (c.toNat : Int)] = some [.int .u8 (c.toNat : Int)] := by
  have hw : (Lit.int .u8 (c.toNat : Int)).wf = true := by
    have := c.toNat_lt
    have e1 : IntKind.u8.min = 0 := rfl
    have e2 : IntKind.u8.max = 255 := rfl
    simp only [Lit.wf, e1, e2, Bool.and_eq_true, decide_eq_true_eq]
    omega
  unfold Program.keyLits
  rw [Tryd.underlying5]
  simp only [hw, and_self, if_true]
theorem hash_lits (d : Nat) (x : List UInt8) (h : x.length = 32) : Tryd.prog.keyLits (d + 2) 25 (Lib.byteCells x) = some (x.map fun c => Lit.int .u8 (c.toNat : Int)) := by
  unfold Program.keyLits
  rw [Tryd.underlying25]
  have e1 : Tryd.prog.cellsOf 25 = 32 := by kernel_rfl
  have e2 : Tryd.prog.cellsOf 5 = 1 := by kernel_rfl
  dsimp only
  rw [e1, e2, if_pos (by rw [Lib.byteCells_length, h]), mapM_some _ (fun i => [Lit.int .u8 ((x.getD i 0).toNat : Int)]) _ fun i hi => ?_]
  · rw [Option.map_some, show (List.range 32).map (fun i => [Lit.int .u8 ((x.getD i 0).toNat : Int)]) = (x.map fun c => Lit.int .u8 (c.toNat : Int)).map fun l => [l] by
      apply List.ext_getElem
      · simp [h]
      · intro i h1 h2
        have hi : i < x.length := by simpa using h2
        simp [hi]]
    congr 1
    generalize (x.map fun c => Lit.int .u8 (c.toNat : Int)) = l
    induction l with
    | nil => rfl
    | cons a l ih => simpa using ih
  · have hi' : i < x.length := by rw [h]; simpa using hi
    have e3 : ((Lib.byteCells x).drop (i * 1)).take 1 = [.int .u8 ((x.getD i 0).toNat : Int)] := by
      rw [Nat.mul_one, List.drop_eq_getElem_cons (by rw [Lib.byteCells_length]; exact hi')]
      simp [Lib.byteCells, hi']
    rw [e3, u8_lits]
theorem hash_keyed : Keyed Tryd.prog 25 := Keyed.of_law (deep_law_laid (m := 3) (by kernel_rfl) (by decide) (by decide +kernel) (by kernel_rfl) (by kernel_rfl))
theorem hash_law : WideMaps.KeyLaw Tryd.prog 25 := deep_law_laid (m := 3) (by kernel_rfl) (by decide) (by decide +kernel) (by kernel_rfl) (by kernel_rfl)
theorem key_law : Keyed Tryd.prog 22 := Go.Maps.int_keyed Tryd.underlying22
theorem hash_key (x : List UInt8) (h : x.length = 32) : keyOf Tryd.prog 25 (.agg (Lib.byteCells x).toArray) = some (hkL x) := by
  unfold keyOf
  rw [Tryd.underlying25]
  dsimp only
  have e1 : Tryd.prog.keyType 25 = true := by kernel_rfl
  have e2 : Value.formed Tryd.prog 25 (.agg (Lib.byteCells x).toArray) = true := by
    unfold Value.formed
    rw [Tryd.underlying25]
    have e1 : Tryd.prog.cellsOf 25 = 32 := by kernel_rfl
    dsimp only
    rw [e1]
    simp [Lib.byteCells_length, h]
  have e3 : 1 ≤ Tryd.prog.types.size := by decide +kernel
  obtain ⟨n, hn⟩ : ∃ n, Tryd.prog.types.size + 1 = n + 2 := ⟨Tryd.prog.types.size - 1, by omega⟩
  rw [e1, e2, hn, if_pos (by rfl), show (Value.agg (Lib.byteCells x).toArray).cells.toList = Lib.byteCells x by simp [Value.cells], hash_lits n x h]
  rfl
theorem u64_key (n : Int) (h : u64R n) : keyOf Tryd.prog 22 (.int .u64 n) = some (.int .u64 n) :=
  Go.Maps.keyOf_int_mk Tryd.underlying22 (by
    have e1 : IntKind.u64.min = 0 := rfl
    have e2 : IntKind.u64.max = 18446744073709551615 := rfl
    unfold u64R at h
    simp only [Lit.wf, e1, e2, Bool.and_eq_true, decide_eq_true_eq]
    omega)
theorem hkL_inj {x y : List UInt8} (hx : x.length = 32) (hy : y.length = 32) (h : hkL x = hkL y) : x = y := by
  have e : keyBytes (x.map fun c => Lit.int .u8 (c.toNat : Int)) = keyBytes (y.map fun c => Lit.int .u8 (c.toNat : Int)) := by
    unfold hkL at h; exact Lit.string.inj h
  have := keyLits_inj (hash_lits 0 x hx) (hash_lits 0 y hy) e
  refine (List.map_inj_right ?_).1 this
  intro a b hab
  have h2 := (Lit.int.inj hab).2
  exact UInt8.toNat_inj.1 (by omega)

theorem int_lookup {w : World} {t k e : TypeId} {b n : Nat} {D : DataW Value} {c : Int} {key : Value} {kl : Lit} (h : w.ownsMap Tryd.prog k (plainElem Tryd.prog e) b n D) (K : Keyed Tryd.prog k) (ht : Tryd.prog.underlying t = some (.map k e))
    (he : Tryd.prog.underlying e = some (.int .i64)) (hz : (zeroValue e).run Tryd.prog w = .ok (.int .i64 0) w) (hkey : keyOf Tryd.prog k key = some kl) (hv : D.atKey kl (.lit (.int .i64 0)) = .lit (.int .i64 c)) : (Instr.lookup t (.map (some b)) key false).run Tryd.prog w = .ok (.int .i64 c) w := by
  obtain ⟨u, hrun, hu, _⟩ := h.lookup_int K ht he hz hkey
  rw [hv] at hu
  injection hu with hu; injection hu with _ hu
  rw [hrun, hu]
theorem yieldsIf_lookup {ops : Array Oper} {S : World → Prop} {op : Oper} {a : Act} (hw : Region.wanted op (yielded ops a.tmps) = true) (t : TypeId) (m x : Operand) (ho : op.op = .lookup t m x false)
    {k e : TypeId} {b n : Nat} {D : DataW Value} {c : Int} {key : Value} {kl : Lit} (hm : a.eval m = .map (some b)) (hx : a.eval x = key) (hS : ∀ w, S w → w.ownsMap Tryd.prog k (plainElem Tryd.prog e) b n D) (K : Keyed Tryd.prog k) (ht : Tryd.prog.underlying t = some (.map k e)) (he : Tryd.prog.underlying e = some (.int .i64))
    (hz : ∀ w, (zeroValue e).run Tryd.prog w = .ok (.int .i64 0) w) (hkey : keyOf Tryd.prog k key = some kl) (hv : D.atKey kl (.lit (.int .i64 0)) = .lit (.int .i64 c)) : YieldsIf Tryd.prog ops S op (.int .i64 c) a :=
  .inl ⟨hw, fun w hw' => by
    unfold execOp
    simp only [ho, hm, hx, Sem.run_bind, Sem.run_pure, Result.andThen_ok, int_lookup (hS w hw') K ht he (hz w) hkey hv]⟩

set_option maxHeartbeats 1000000 in
theorem Power_ok2 (p : Nat) (ds : List ValD) (tot : Int) (of : VoteD) (bm bs : Nat) (all : Int) (tv : Value) (x : List UInt8) (n : Nat) (E : DataW Value) (pw : Int) (w : World) (hv : of.wf) (hx : x.length = 32) (h : TlAt w p ds tot of bm bs all tv)
    (hE : w.ownsMap Tryd.prog 25 sumR bs n E) (hat : E.atKey (hkL x) (.lit (.int .i64 0)) = .lit (.int .i64 pw)) :
    Calls Tryd.prog 22 #[.pointer (some ⟨p, 0, none⟩), .agg (Lib.byteCells x).toArray] w fun e w' => e = .returned (.int .i64 pw) ∧ w.grownBy w' none := by
  obtain ⟨⟨sv, hb, _⟩, _⟩ := h
  have HX := Lib.hid hx; have HE := Lib.hid hE; have HA := Lib.hid hat
  have c0 := hb.row 42 _ (tl_tail hv 1)
  rw [Nat.zero_add] at c0
  have C0 := Lib.hid c0
  clear hb hv hx hE hat c0
  go_enter Tryd.func22, Tryd.ntmps22
  go_wp2_with (first | (refine wpList_box_as rfl 25 _ rfl (Lib.byteCells x) rfl ?_))
  intro w1 b1 g1 s1
  obtain ⟨b, hb⟩ : ∃ b, w.heap.size = b := ⟨_, rfl⟩
  rw [hb] at b1 ⊢
  have B1 := Lib.hid b1; have G1 := Lib.hid g1
  clear b1 g1 s1 hb
  go_upto_region 3 with (fail)
  have hg0 : w1.grownBy w1.drew none := dr_grown w1 1
  have gg := Lib.grownBy_trans G1.out hg0
  go_cut [4] from 5 (fun s4 w' => s4 = .int .i64 pw ∧ w.grownBy w' none)
  case first =>
    refine wp_region_held_drew (S := fun W => W.cell? ⟨p, 42, none⟩ = some (.map (some bs)) ∧ RowAt W b 0 (Lib.byteCells x) ∧ W.ownsMap Tryd.prog 25 sumR bs n E) (by kernel_rfl) ⟨gg.cell C0.out (by simp), (B1.out.grown hg0 (by simp)).row, HE.out.kept gg (by simp)⟩ (fun hH => ?_)
    refine wpAnyH_take (i := 0) (v := (.pointer (some ⟨p, 0, none⟩))) rfl (by kernel_rfl) (by kernel_rfl) (by kernel_rfl) (fun _ _ _ h => h) (Or.inl ⟨by rfl, fun W hS => by go_simp⟩) hH ?_
    simp only [Act.put, List.getElem_toArray, List.getElem_cons_zero, List.setIfInBounds_toArray, List.set_cons_zero, List.set_cons_succ]
    refine wpAnyH_take (i := 1) (v := (.pointer (some ⟨p, 0, none⟩))) rfl (by kernel_rfl) (by kernel_rfl) (by kernel_rfl) (fun _ _ _ h => h) (Or.inl ⟨by rfl, fun W hS => by go_simp⟩) hH ?_
    simp only [Act.put, List.getElem_toArray, List.getElem_cons_succ, List.getElem_cons_zero, List.setIfInBounds_toArray, List.set_cons_zero, List.set_cons_succ]
    refine wpAnyH_take (i := 2) (v := (.pointer (some ⟨p, 42, none⟩))) rfl (by kernel_rfl) (by kernel_rfl) (by kernel_rfl) (fun _ _ _ h => h) (Or.inl ⟨by rfl, fun W hS => by go_simp⟩) hH ?_
    simp only [Act.put, List.getElem_toArray, List.getElem_cons_succ, List.getElem_cons_zero, List.setIfInBounds_toArray, List.set_cons_zero, List.set_cons_succ]
    refine wpAnyH_take (i := 3) (v := (.map (some bs))) rfl (by kernel_rfl) (by kernel_rfl) (by kernel_rfl) (fun _ _ _ h => h) (Or.inl ⟨by rfl, fun W hS => by have c := hS.1; go_simp⟩) hH ?_
    simp only [Act.put, List.getElem_toArray, List.getElem_cons_succ, List.getElem_cons_zero, List.setIfInBounds_toArray, List.set_cons_zero, List.set_cons_succ]
    refine wpAnyH_take (i := 4) (v := (.agg (Lib.byteCells x).toArray)) rfl (by kernel_rfl) (by kernel_rfl) (by kernel_rfl) (fun _ _ _ h => h) (yieldsIf_load_mid (by rfl) 25 _ rfl b 0 rfl (Lib.byteCells x) _ (fun W h => h.2.1) Tryd.underlying25 rfl (sizeH _ (by rw [Lib.byteCells_length, HX.out]))) hH ?_
    simp only [Act.put, List.getElem_toArray, List.getElem_cons_succ, List.getElem_cons_zero, List.setIfInBounds_toArray, List.set_cons_zero, List.set_cons_succ]
    refine wpAnyH_take (i := 5) (v := (.int .i64 pw)) rfl (by kernel_rfl) (by kernel_rfl) (by kernel_rfl) (fun _ _ _ h => h) (yieldsIf_lookup (by rfl) 82 _ _ (by rfl) (by rfl) (by rfl) (fun W h => h.2.2) hash_keyed Tryd.underlying82 Tryd.underlying3 Tryd.zeroValue3 (hash_key x HX.out) HA.out) hH ?_
    simp only [Act.put, List.getElem_toArray, List.getElem_cons_succ, List.getElem_cons_zero, List.setIfInBounds_toArray, List.set_cons_zero, List.set_cons_succ]
    refine wpAnyH_take (i := 6) (v := (.int .i64 pw)) rfl (by kernel_rfl) (by kernel_rfl) (by kernel_rfl) (fun _ _ _ h => h) (Or.inl ⟨by rfl, fun W hS => by go_simp⟩) hH ?_
    simp only [Act.put, List.getElem_toArray, List.getElem_cons_succ, List.getElem_cons_zero, List.setIfInBounds_toArray, List.set_cons_zero, List.set_cons_succ]
    refine wpAnyH_done (by kernel_rfl) ?_ _
    go_wp2
    go_meet
    case rel => exact ⟨rfl, gg⟩
  go_wp2_with fail
  obtain ⟨rfl, g9⟩ := hcut
  go_ret
  exact ⟨rfl, g9⟩

theorem mapM_inv {α β : Type} (f : α → Option β) : ∀ (l : List α) (r : List β), l.mapM f = some r → ∀ x ∈ l, ∃ y, f x = some y
  | [], _, _, x, hx => by simp at hx
  | a :: l, r, h, x, hx => by
    rw [List.mapM_cons] at h
    cases ha : f a with
    | none => rw [ha] at h; cases h
    | some y =>
      rw [ha] at h
      cases hl : l.mapM f with
      | none => rw [hl] at h; cases h
      | some s =>
        rcases List.mem_cons.1 hx with rfl | hx
        · exact ⟨y, ha⟩
        · exact mapM_inv f l s hl x hx
def u8Of : Value → UInt8
  | .int _ n => UInt8.ofNat n.toNat
  | _ => 0
theorem u8_cell {d : Nat} {c : Value} {l : List Lit} (h : Tryd.prog.keyLits (d + 1) 5 [c] = some l) : c = .int .u8 ((u8Of c).toNat : Int) := by
  unfold Program.keyLits at h
  rw [Tryd.underlying5] at h
  cases c <;> simp at h
  obtain ⟨⟨rfl, hw⟩, _⟩ := h
  have e1 : IntKind.u8.min = 0 := rfl
  have e2 : IntKind.u8.max = 255 := rfl
  simp only [Lit.wf, e1, e2, Bool.and_eq_true, decide_eq_true_eq] at hw
  rename_i n _
  have : (UInt8.ofNat n.toNat).toNat = n.toNat := by simp [UInt8.toNat_ofNat']; omega
  simp only [u8Of, this]
  congr 1
  omega
theorem hash_inv {v : Value} {kl : Lit} (h : keyOf Tryd.prog 25 v = some kl) : ∃ x : List UInt8, x.length = 32 ∧ v = .agg (Lib.byteCells x).toArray ∧ kl = hkL x := by
  have h0 := h
  unfold keyOf at h
  rw [Tryd.underlying25] at h
  dsimp only at h
  split at h
  · rename_i hc
    simp only [Bool.and_eq_true] at hc
    have hf := hc.2
    unfold Value.formed at hf
    cases v <;> simp [Tryd.underlying25] at hf
    rename_i cs
    have e1 : Tryd.prog.cellsOf 25 = 32 := by kernel_rfl
    have e2 : Tryd.prog.cellsOf 5 = 1 := by kernel_rfl
    rw [e1] at hf
    have e3 : 1 ≤ Tryd.prog.types.size := by decide +kernel
    obtain ⟨n, hn⟩ : ∃ n, Tryd.prog.types.size + 1 = n + 2 := ⟨Tryd.prog.types.size - 1, by omega⟩
    rw [hn] at h
    cases hk : Tryd.prog.keyLits (n + 2) 25 (Value.agg cs).cells.toList with
    | none => rw [hk] at h; cases h
    | some l =>
      have hk2 := hk
      unfold Program.keyLits at hk
      rw [Tryd.underlying25] at hk
      dsimp only at hk
      rw [e2] at hk
      split at hk
      · cases hm : (List.range 32).mapM fun i => Tryd.prog.keyLits (n + 1) 5 (((Value.agg cs).cells.toList.drop (i * 1)).take 1) with
        | none => rw [hm] at hk; cases hk
        | some r =>
          have hx : cs = (Lib.byteCells (cs.toList.map u8Of)).toArray := by
            apply Array.ext'
            simp only [Lib.byteCells, List.map_map]
            refine List.ext_getElem (by simp) fun i h1 h2 => ?_
            have hi : i < 32 := by simpa [hf] using h1
            obtain ⟨y, hy⟩ := mapM_inv _ _ _ hm i (by simpa using hi)
            have e4 : ((Value.agg cs).cells.toList.drop (i * 1)).take 1 = [cs.toList[i]] := by
              rw [Nat.mul_one, show (Value.agg cs).cells = cs from rfl, List.drop_eq_getElem_cons h1]
              rfl
            rw [e4] at hy
            simpa using u8_cell hy
          have hl : (cs.toList.map u8Of).length = 32 := by simp [hf]
          refine ⟨_, hl, by rw [← hx], ?_⟩
          have h5 := hash_key _ hl
          rw [← hx, h0] at h5
          exact Option.some.inj h5
      · cases hk
  · cases h

/-- no block with this key has more than two thirds -/
def Poor (E : DataW Value) (tot : Int) (kl : Lit) : Prop := ∀ c : Int, (∀ zd, E.atKey kl zd = .lit (.int .i64 c)) → twoB c tot = false
def WinR (E : DataW Value) (tot : Int) (w : World) (e : Ending) (w' : World) : Prop := w.grownBy w' none ∧
  ((∃ x c, x.length = 32 ∧ (∀ zd, E.atKey (hkL x) zd = .lit (.int .i64 c)) ∧ twoB c tot = true ∧ e = .returned (.tuple #[.agg (Lib.byteCells x).toArray, .bool true])) ∨
   ((∀ kl, Go.Maps.has E kl = true → Poor E tot kl) ∧ e = .returned (.tuple #[.agg ZH.toArray, .bool false])))
theorem sum_inv {v : Value} {y : DataW Value × List MemPlace} (h : sumR v = some y) : ∃ c, v = .int .i64 c := by
  obtain ⟨c, rfl, _⟩ := plainElem_int_inv Tryd.underlying3 h
  exact ⟨c, rfl⟩

set_option maxHeartbeats 2000000 in
theorem Winner_ok (p : Nat) (ds : List ValD) (tot : Int) (of : VoteD) (bm bs : Nat) (all : Int) (tv : Value) (n : Nat) (E : DataW Value) (w : World) (hv : of.wf) (h : TlAt w p ds tot of bm bs all tv)
    (hE : w.ownsMap Tryd.prog 25 sumR bs n E) :
    Calls Tryd.prog 21 #[.pointer (some ⟨p, 0, none⟩)] w (WinR E tot w) := by
  obtain ⟨⟨sv, hb, _⟩, _⟩ := h
  have HE := Lib.hid hE
  have c0 := hb.row 42 _ (tl_tail hv 1); have c1 := hb.row 1 _ tl_1
  rw [Nat.zero_add] at c0 c1
  have C0 := Lib.hid c0; have C1 := Lib.hid c1
  have P := Lib.hid (show p < w.heap.size from hb.lt)
  clear hb hv hE c0 c1
  go_enter Tryd.func21, Tryd.ntmps21
  go_wp2_with (refine wpList_alloc_as rfl 25 rfl ZH ZH_info ?_)
  intro w1 b1 g1 s1
  obtain ⟨b, hb⟩ : ∃ b, w.heap.size = b := ⟨_, rfl⟩
  rw [hb] at b1 ⊢
  have HB := Lib.hid hb
  have B1 := Lib.hid b1; have G1 := Lib.hid g1; have E1 := Lib.hid (HE.out.kept g1 (by simp))
  have c0 := g1.cell C0.out (by simp)
  have S1 := Lib.hid (show w1.heap.size = b + 1 by omega)
  clear b1 g1 s1 hb
  go_wp2_with (first | (at_range; refine wpList_range_own _ rfl _ 82 rfl 25 3 hash_keyed Tryd.underlying82 _ bs n E rfl E1.out ?_; intro w2 hrg2 hg2 hs2) | go_in)
  rw [S1.out] at hrg2 ⊢
  have B2 := Lib.hid (B1.out.grown hg2 (by simp)); have G2 := Lib.hid (Lib.grownBy_trans G1.out hg2); have RG := Lib.hid hrg2
  have S2 := Lib.hid (show b + 2 ≤ w2.heap.size by have := S1.out; omega)
  clear hrg2 hg2 hs2 c0
  go_frame
  go_loopw [] (fun wr => ∃ left cnt, wr.ranges Tryd.prog 25 sumR bs (b + 1) n E left cnt ∧ Blk wr b ZH 25 ∧ w.grownBy wr none ∧ b + 2 ≤ wr.heap.size ∧ ∀ kl, Go.Maps.has E kl = true → left kl = false → Poor E tot kl) (fun wr => wr.rangeLeft bs (b + 1))
  case atStart => exact ⟨_, _, RG.out, B2.out, G2.out, S2.out, fun kl h1 h2 => by rw [h1] at h2; cases h2⟩
  case round =>
    obtain ⟨left, cnt, hrg, hb, hg, hsz, hpo⟩ := hrel
    have RG0 := Lib.hid hrg; have HBk := Lib.hid hb; have Hg := Lib.hid hg; have Hs := Lib.hid hsz; have Hp := Lib.hid hpo
    clear hrg hb hg hsz hpo RG B2 G2 S2
    go_wp2_with (at_next; refine wpList_next_ranges (α := { x : List UInt8 // x.length = 32 }) (β := Int) _ rfl _ rfl 25 hash_keyed sumR (fun x => .agg (Lib.byteCells x.1).toArray) (fun c => .int .i64 c) (fun key kl h => by obtain ⟨x, hx, he, _⟩ := hash_inv h; exact ⟨⟨x, hx⟩, he⟩) (fun v y h => sum_inv h) bs (b + 1) n E _ _ rfl RG0.out ?_ ?_)
    · intro hc hl
      have F := Lib.hid (show ∀ kl, Go.Maps.has E kl = true → Poor E tot kl from fun kl h => Hp.out kl h (hl kl))
      clear hc hl
      go_wp2_with (first | (refine wpList_build_eq rfl 25 _ rfl [] (by kernel_rfl) ZH bHash0 ?_) | (refine wpList_store_whole rfl 25 _ _ rfl b rfl ZH ZH 25 rfl HBk.out rfl ZH_one (sizeH _ ZH_length) ?_))
      intro w4 g4 s4 b4
      have B4 := Lib.hid b4; have G4 := Lib.hid (grown_new Hg.out g4 (by rw [HB.out]; exact Nat.le_refl _))
      clear b4 g4 s4
      go_wp2_with fail
      refine bodyPost_ret (results_cell_tmp rfl _ _ ⟨b, 0, none⟩ _ _ rfl rfl (run_loadVar_part _ _ _ 25 ZH _ B4.out.row Tryd.underlying25 rfl (sizeH _ ZH_length))) rfl ?_
      exact ⟨G4.out, Or.inr ⟨F.out, rfl⟩⟩
    · intro x hx c kl y ps w3 cnt' hkey hlk hv hat hrg' hlt hgr hsz' hen
      obtain rfl : kl = hkL x := Option.some.inj (hkey.symm.trans (hash_key x hx))
      obtain ⟨c', hc', hy, _⟩ := plainElem_int_inv Tryd.underlying3 hv
      obtain rfl : c = c' := by injection hc'
      have AT := Lib.hid (show ∀ zd, E.atKey (hkL x) zd = .lit (.int .i64 c) from fun zd => (hat zd).trans (Prod.mk.inj hy).1)
      have g3 : w.grownBy w3 none := grown_new Hg.out hgr (by rw [HB.out]; omega)
      have G3 := Lib.hid g3; have RG3 := Lib.hid hrg'; have B3 := Lib.hid (HBk.out.grown hgr (by simp)); have HX := Lib.hid hx
      have S3 := Lib.hid (show b + 2 ≤ w3.heap.size by have := Hs.out; omega)
      have CT := Lib.hid hlt; have CE := Lib.hid (RG0.out.left_eq); have CE3 := Lib.hid (RG3.out.left_eq)
      clear hkey hlk hv hat hrg' hlt hgr hsz' hc' hy g3 RG0 HBk Hg Hs hx
      go_wp2_with (refine wpList_alloc_as rfl 25 rfl ZH ZH_info ?_)
      intro w4 b4 g4 s4
      obtain ⟨d, hd⟩ : ∃ d, w3.heap.size = d := ⟨_, rfl⟩
      rw [hd] at b4 ⊢
      have D4 := Lib.hid b4; have B4 := Lib.hid (B3.out.grown g4 (by simp)); have G4 := Lib.hid (Lib.grownBy_trans G3.out g4); have RG4 := Lib.hid (RG3.out.kept g4 (by simp) (by simp))
      have Hd := Lib.hid (show b + 2 ≤ d by have := S3.out; omega)
      have S4 := Lib.hid (show b + 2 ≤ w4.heap.size by have := S3.out; omega)
      have bsd := Lib.hid (show bs < d by rw [← hd]; exact RG3.out.owns.lt)
      have CE4 := Lib.hid (show w4.rangeLeft bs (b + 1) = cnt' from RG4.out.left_eq)
      clear b4 g4 s4 hd B3 G3 RG3 S3 hen
      go_wp2_with (refine wpList_store_whole rfl 25 _ _ rfl d rfl (Lib.byteCells x) ZH 25 rfl D4.out (by rw [Lib.byteCells_length, HX.out]; rfl) (oneCell_bytes _) (sizeH _ (by rw [Lib.byteCells_length, HX.out])) ?_)
      intro w5 g5 s5 b5
      have D5 := Lib.hid b5; have B5 := Lib.hid (B4.out.grown g5 (by have := Hd.out; simp; omega)); have G5 := Lib.hid (grown_new G4.out g5 (by have := HB.out; have := Hd.out; omega)); have RG5 := Lib.hid (RG4.out.kept g5 (by have := bsd.out; simp; omega) (by have := Hd.out; simp; omega))
      have S5 := Lib.hid (show b + 2 ≤ w5.heap.size by have := S4.out; omega)
      have c1 := G5.out.cell C1.out (by simp)
      clear b5 g5 s5 D4 B4 G4 RG4 S4 CE4
      have T2 := Lib.hid (Two_ok c tot w5)
      cases ht : twoB c tot with
      | true =>
        rw [ht] at T2
        have W := Lib.hid ht
        clear ht
        go_wp2_with (first | (go_at_call 14; (with_reducible refine T2.out.mono ?_); rintro e w' ⟨rfl, rfl⟩) | (refine wpList_load_part rfl 25 _ rfl d 0 rfl (Lib.byteCells x) _ D5.out.row Tryd.underlying25 rfl (sizeH _ (by rw [Lib.byteCells_length, HX.out])) ?_) | (refine wpList_store_whole rfl 25 _ _ rfl b rfl (Lib.byteCells x) ZH 25 rfl B5.out (by rw [Lib.byteCells_length, HX.out]; rfl) (oneCell_bytes _) (sizeH _ (by rw [Lib.byteCells_length, HX.out])) ?_))
        intro w6 g6 s6 b6
        have B6 := Lib.hid b6; have G6 := Lib.hid (grown_new G5.out g6 (by rw [HB.out]; exact Nat.le_refl _))
        clear b6 g6 s6
        go_wp2_with fail
        refine bodyPost_ret (results_cell_tmp rfl _ _ ⟨b, 0, none⟩ _ _ rfl rfl (run_loadVar_part _ _ _ 25 (Lib.byteCells x) _ B6.out.row Tryd.underlying25 rfl (sizeH _ (by rw [Lib.byteCells_length, HX.out])))) rfl ?_
        exact ⟨G6.out, Or.inl ⟨x, c, HX.out, AT.out, W.out, rfl⟩⟩
      | false => 
        rw [ht] at T2
        have W := Lib.hid ht
        clear ht
        go_wp2_with (go_at_call 14; (with_reducible refine T2.out.mono ?_); rintro e w' ⟨rfl, rfl⟩)
        refine ⟨⟨_, _, RG5.out, B5.out, G5.out, S5.out, fun kl h1 h2 => ?_⟩, by rw [RG5.out.left_eq, CE.out]; exact CT.out⟩
        by_cases he : kl = hkL x
        · subst he
          intro c2 hc2
          have e := (AT.out (.lit (.bool true))).symm.trans (hc2 _)
          injection e with e; injection e with _ e
          rw [← e]; exact W.out
        · refine Hp.out kl h1 ?_
          have := Go.Maps.sameKey_ne he
          simpa [this] using h2

end Go.Proofs.YtfnginmoiecgnaaDoor
