/- Structs that are built of some of their parts. Walk: the laws' light blocks of one validator. Walk: the live question of the light client's laws. -/
import Derived.Test.YtbhghlendbcejaaGreatDoorOw
import Derived.Test.YtbhghlendbcejaaGreatDoorLx
import Derived.Test.YtbhghlendbcejaaGreatDoorVf
import Derived.Test.YtbhghlendbcejaaGreatDoorSchR
import Derived.Test.YtbhghlendbcejaaGreatDoorVs
namespace Go.Proofs.YtbhghlendbcejaaGreatDoor
open Go.RowKit
set_option maxRecDepth 100000

def putC (z : List Value) (off : Nat) (v : Value) : List Value := z.take off ++ v.cells.toList ++ z.drop (off + v.cells.size)
theorem putC_len {z : List Value} {off : Nat} {v : Value} (h : off + v.cells.size ≤ z.length) : (putC z off v).length = z.length := by
  unfold putC
  simp
  omega
theorem fill_val (pl : Nat → Option (Nat × Nat)) (i off : Nat) (v : Value) (z : List Value) (rest : List (Nat × Value)) (hp : pl i = some (off, v.cells.size)) (hl : off + v.cells.size ≤ z.length) :
    Instr.fill pl z.toArray ((i, v) :: rest) = Instr.fill pl (putC z off v).toArray rest := by
  have hz : z = z.take off ++ (z.drop off).take v.cells.size ++ z.drop (off + v.cells.size) := by
    rw [List.append_assoc, ← List.drop_drop, List.take_append_drop, List.take_append_drop]
  have hpre : (z.take off).length = off := by rw [List.length_take]; omega
  have hmid : v.cells.toList.length = ((z.drop off).take v.cells.size).length := by
    have e1 : v.cells.toList.length = v.cells.size := Array.length_toList
    have e2 : ((z.drop off).take v.cells.size).length = v.cells.size := by rw [List.length_take, List.length_drop]; omega
    rw [e1, e2]
  have f := fold_part (z.take off) ((z.drop off).take v.cells.size) (z.drop (off + v.cells.size)) v.cells.toList hmid
  rw [hpre, ← hz] at f
  conv => lhs; unfold Instr.fill
  simp only [hp]
  rw [if_neg (by simp; omega)]
  have f' : (v.cells.zipIdx.foldl (fun cs (x : Value × Nat) => cs.setIfInBounds (off + x.2) x.1) z.toArray) = (putC z off v).toArray := by
    rw [← Array.foldl_toList, Array.toList_zipIdx, f]
    rfl
  rw [f']
def puts (pl : Nat → Option (Nat × Nat)) (z : List Value) : List (Nat × Value) → List Value
  | [] => z
  | x :: r => puts pl (putC z (((pl x.1).map (·.1)).getD 0) x.2) r
theorem fill_puts (pl : Nat → Option (Nat × Nat)) : ∀ (ps : List (Nat × Value)) (z : List Value), (∀ x ∈ ps, ∃ off, pl x.1 = some (off, x.2.cells.size) ∧ off + x.2.cells.size ≤ z.length) → Instr.fill pl z.toArray ps = some (puts pl z ps).toArray
  | [], z, _ => rfl
  | (i, v) :: r, z, h => by
    obtain ⟨off, h1, h2⟩ := h (i, v) (by simp)
    dsimp only at h1 h2
    rw [fill_val pl i off v z r h1 h2, fill_puts pl r _ (fun x hx => by
      obtain ⟨o, k1, k2⟩ := h x (by simp [hx])
      exact ⟨o, k1, by rw [putC_len h2]; exact k2⟩)]
    have e : puts pl z ((i, v) :: r) = puts pl (putC z (((pl i).map (·.1)).getD 0) v) r := rfl
    rw [e, h1]; rfl
section
variable {P : Program}
theorem built_puts (t : TypeId) (fields : Array Field) (places : List (Nat × Nat)) (z : List Value) (ps : List (Nat × Value)) (hu : P.underlying t = some (.struct fields))
    (hp : fields.toList.mapM (fun f => (P.info? f.type).map fun i => (f.offset, i.size)) = some places)
    (hz : (P.info? t).map (fun i => i.zero.map (fun v => v.cells)) = some (some z.toArray))
    (h : ∀ x ∈ ps, ∃ off, places.toArray[x.1]? = some (off, x.2.cells.size) ∧ off + x.2.cells.size ≤ z.length) (cs : List Value) (e : puts (places.toArray[·]?) z ps = cs) : P.built t ps = some cs.toArray := by
  subst e
  unfold Program.built
  cases hi : P.info? t with
  | none => simp [hi] at hz
  | some it =>
    cases hzz : it.zero with
    | none => simp [hi, hzz] at hz
    | some v =>
      have hs : v.cells = z.toArray := by simpa [hi, hzz] using hz
      simp only [hu, hp, hzz, hs]
      exact fill_puts _ ps z h
end
theorem agg_size (l : List Value) : (Value.agg l.toArray).cells.size = l.length := by simp [Value.cells]
theorem agg_cells (l : List Value) : (Value.agg l.toArray).cells.toList = l := by simp [Value.cells]
theorem bVoteG (c : ByteArray) (h t : Int) (l : List UInt8) (hl : l.length = 32) : Tryz.prog.built 149 [(0, .string c), (1, .int .i64 h), (3, .int .i64 t), (4, .agg (Lib.byteCells l).toArray)] = some (⟨c, h, 0, t, l, 0, 0, 0⟩ : VoteD).cells.toArray := by
  have hs : (Value.agg (Lib.byteCells l).toArray).cells.size = 32 := by rw [agg_size, Lib.byteCells_length, hl]
  refine built_puts 149 _ [(0, 1), (1, 1), (2, 1), (3, 1), (4, 32), (36, 1), (37, 2)] ZVote _ Tryz.underlying149 (by kernel_rfl) ZVote_info ?_ _ ?_
  · intro x hx
    simp only [List.mem_cons, List.not_mem_nil, or_false] at hx
    rcases hx with rfl | rfl | rfl | rfl
    · exact ⟨0, rfl, Nat.le_of_ble_eq_true rfl⟩
    · exact ⟨1, rfl, Nat.le_of_ble_eq_true rfl⟩
    · exact ⟨3, rfl, Nat.le_of_ble_eq_true rfl⟩
    · exact ⟨4, by rw [hs]; rfl, by rw [hs]; decide⟩
  · show putC ([.string c, .int .i64 h, .int .i64 0, .int .i64 t] ++ Lib.byteCells (List.replicate 32 0) ++ [.int .u64 0, .int .u64 0, .int .u64 0]) 4 (.agg (Lib.byteCells l).toArray) = _
    unfold putC
    rw [hs, agg_cells]
    unfold VoteD.cells
    rfl
theorem bHdrG (c : ByteArray) (h t : Int) (l s n : List UInt8) (hl : l.length = 32) (hs : s.length = 32) (hn : n.length = 32) :
    Tryz.prog.built 25 [(0, .string c), (1, .int .i64 h), (2, .int .i64 t), (3, .agg (Lib.byteCells l).toArray), (4, .agg (Lib.byteCells s).toArray), (5, .agg (Lib.byteCells n).toArray)] = some (⟨c, h, t, l, s, n, z32, z32⟩ : HeaderD).cells.toArray := by
  have hb := built_pre (P := Tryz.prog) 25 _ [(0, 1), (1, 1), (2, 1), (3, 32), (35, 32), (67, 32), (99, 32), (131, 32)] [.string c, .int .i64 h, .int .i64 t, .agg (Lib.byteCells l).toArray, .agg (Lib.byteCells s).toArray, .agg (Lib.byteCells n).toArray] ZHeader (ZHeader.take 99) (ZHeader.drop 99) Tryz.underlying25 (by kernel_rfl) ZHeader_info rfl
    (by simp [flatCells, Value.cells, Lib.byteCells_length, hl, hs, hn]; rfl) ⟨rfl, rfl, rfl, by simp [Value.cells, Lib.byteCells_length, hl], by simp [Value.cells, Lib.byteCells_length, hl, hs], by simp [Value.cells, Lib.byteCells_length, hl, hs, hn], trivial⟩
  have e : flatCells [.string c, .int .i64 h, .int .i64 t, .agg (Lib.byteCells l).toArray, .agg (Lib.byteCells s).toArray, .agg (Lib.byteCells n).toArray] ++ ZHeader.drop 99 = (⟨c, h, t, l, s, n, z32, z32⟩ : HeaderD).cells := by
    have e2 : ZHeader.drop 99 = Lib.byteCells z32 ++ Lib.byteCells z32 := by rfl
    rw [e2]
    simp [flatCells, Value.cells, HeaderD.cells]
  rw [e] at hb
  exact hb
def ZLt0 : List Value := ZHeader ++ (ZCommit ++ [.slice none 0 0, .slice none 0 0])
theorem ZLt0_info : (Tryz.prog.info? 31).map (fun i => i.zero.map (fun v => v.cells)) = some (some ZLt0.toArray) := by kernel_rfl
/-- a light block without a commit -/
theorem bLightG (d : HeaderD) (hd : d.wf) (a b : Option Addr) (m k m' k' : Nat) :
    Tryz.prog.built 31 [(0, .agg d.cells.toArray), (2, .slice a m k), (3, .slice b m' k')] = some (⟨d, 0, 0, z32, none, 0, 0, a, m, k, b, m', k'⟩ : LtR).cells.toArray := by
  have hs : (Value.agg d.cells.toArray).cells.size = 163 := by rw [agg_size, d.cells_length hd]
  refine built_puts 31 _ [(0, 163), (163, 35), (198, 1), (199, 1)] ZLt0 _ Tryz.underlying31 (by kernel_rfl) ZLt0_info ?_ _ ?_
  · intro x hx
    simp only [List.mem_cons, List.not_mem_nil, or_false] at hx
    rcases hx with rfl | rfl | rfl
    · exact ⟨0, by rw [hs]; rfl, by rw [hs]; decide⟩
    · exact ⟨198, rfl, Nat.le_of_ble_eq_true rfl⟩
    · exact ⟨199, rfl, Nat.le_of_ble_eq_true rfl⟩
  · have e1 : putC ZLt0 0 (.agg d.cells.toArray) = d.cells ++ ([.int .i64 0, .int .i64 0] ++ Lib.byteCells z32 ++ [.slice none 0 0, .slice none 0 0, .slice none 0 0]) := by
      unfold putC
      rw [hs, agg_cells]
      rfl
    show putC (putC (putC ZLt0 0 (.agg d.cells.toArray)) 198 (.slice a m k)) 199 (.slice b m' k') = _
    rw [e1]
    have hl := d.cells_length hd
    obtain ⟨D, hD⟩ : ∃ D, d.cells = D := ⟨_, rfl⟩
    rw [hD] at hl
    unfold LtR.cells LtR.mid
    dsimp only
    rw [hD]
    have key : ∀ (T : List Value) (o : Nat) (v : Value), v.cells.toList = [v] → v.cells.size = 1 → putC (D ++ T) (163 + o) v = D ++ (T.take o ++ [v] ++ T.drop (o + 1)) := by
      intro T o v h1 h2
      unfold putC
      rw [h1, h2, List.take_append, List.take_of_length_le (by omega), hl, show 163 + o - 163 = o by omega, List.drop_append, List.drop_eq_nil_of_le (by omega), hl, show 163 + o + 1 - 163 = o + 1 by omega]
      simp
    rw [key _ 35 _ rfl rfl, key _ 36 _ rfl rfl]
    rfl
theorem bSealG (k r s : Int) : Tryz.prog.built 128 [(0, .int .u64 k), (1, .agg #[.int .u64 r, .int .u64 s])] = some (⟨k, r, s⟩ : SealD).cells.toArray := by kernel_rfl
theorem bValG (k p : Int) : Tryz.prog.built 131 [(0, .int .u64 k), (1, .int .i64 p)] = some (⟨k, p⟩ : ValD).cells.toArray := by kernel_rfl
theorem bCommitG (h : Int) (l : List UInt8) (hl : l.length = 32) (a : Option Addr) (m k : Nat) : Tryz.prog.built 28 [(0, .int .i64 h), (2, .agg (Lib.byteCells l).toArray), (3, .slice a m k)] = some (commitV h 0 l (.slice a m k)).toArray := by
  have hs : (Value.agg (Lib.byteCells l).toArray).cells.size = 32 := by rw [agg_size, Lib.byteCells_length, hl]
  refine built_puts 28 _ [(0, 1), (1, 1), (2, 32), (34, 1)] ZCommit _ Tryz.underlying28 (by kernel_rfl) ZCommit_info ?_ _ ?_
  · intro x hx
    simp only [List.mem_cons, List.not_mem_nil, or_false] at hx
    rcases hx with rfl | rfl | rfl
    · exact ⟨0, rfl, Nat.le_of_ble_eq_true rfl⟩
    · exact ⟨2, by rw [hs]; rfl, by rw [hs]; decide⟩
    · exact ⟨34, rfl, Nat.le_of_ble_eq_true rfl⟩
  · have e1 : putC (putC ZCommit 0 (.int .i64 h)) 2 (.agg (Lib.byteCells l).toArray) = [.int .i64 h, .int .i64 0] ++ Lib.byteCells l ++ [.slice none 0 0] := by
      have : putC ZCommit 0 (.int .i64 h) = [.int .i64 h, .int .i64 0] ++ Lib.byteCells (List.replicate 32 0) ++ [.slice none 0 0] := rfl
      rw [this]
      unfold putC
      rw [hs, agg_cells]
      rfl
    show putC (putC (putC ZCommit 0 (.int .i64 h)) 2 (.agg (Lib.byteCells l).toArray)) 34 (.slice a m k) = _
    rw [e1]
    unfold putC commitV
    have hb : (Lib.byteCells l).length = 32 := by rw [Lib.byteCells_length, hl]
    obtain ⟨B, hB⟩ : ∃ B, Lib.byteCells l = B := ⟨_, rfl⟩
    rw [hB] at hb ⊢
    have h1 : (([.int .i64 h, .int .i64 0] : List Value) ++ B).length = 34 := by simp [hb]
    have h2 : (Value.slice a m k).cells.toList = [.slice a m k] := rfl
    have h3 : (Value.slice a m k).cells.size = 1 := rfl
    rw [h2, h3, List.take_left' h1, List.drop_append, List.drop_eq_nil_of_le (by omega), h1]
    simp
section
variable {P : Program} {ops : Array Oper} {rest : List Oper} {o : Oper} {a : Act} {w0 w : World} {Q : Exit → Act → World → Prop} {L : List (Nat × List Value × TypeId)}
/-- a slice of one thing -/
theorem wpList_own_one (hgd : Region.wanted o (yielded ops a.tmps) = true) (t : TypeId) (x : Operand) (ho : o.op = .buildSlice t 1 #[(0, x)]) (cs : List Value) (hx : a.eval x = .agg cs.toArray)
    (e : TypeId) (z : Value) (size : Nat) (ht : P.underlying t = some (.slice e)) (hi : (P.info? e).map (fun i => (i.zero, i.size)) = some (some z, size)) (hcs : cs.length = size) (hsz : size ≤ 1000) (O : Own w0 w L)
    (h : ∀ b w2, Own w0 w2 ((b, cs, e) :: L) → wpList P ops Q rest (a.put o.dst (.slice (some ⟨b, 0, none⟩) 1 1)) w2) : wpList P ops Q (o :: rest) a w :=
  wpList_buildSlice_all hgd t 1 _ ho [.agg cs.toArray] (by simp [hx]) rfl cs (by simp [flatCells, Value.cells]) e z size ht hi (by intro v hv; simp at hv; subst hv; rw [agg_size]; exact hcs) (by simp; omega) fun w2 b g _ => h _ w2 (O.new b g)
end

theorem val_z : (Tryz.prog.info? 131).map (fun i => (i.zero, i.size)) = some (some (.agg #[.int .u64 0, .int .i64 0]), 2) := by kernel_rfl
theorem seal_z : (Tryz.prog.info? 128).map (fun i => (i.zero, i.size)) = some (some (.agg #[.int .u64 0, .int .u64 0, .int .u64 0]), 3) := by kernel_rfl
theorem ZLt0_one : ∀ v ∈ ZLt0, v.oneCell' = true := fun v hv => List.all_eq_true.1 (show ZLt0.all (·.oneCell') = true by kernel_rfl) v hv
theorem LtR_one (x : LtR) : ∀ v ∈ x.cells, v.oneCell' = true := by
  intro v hv
  unfold LtR.cells LtR.mid at hv
  rcases List.mem_append.1 hv with hv | hv
  · exact HeaderD_one _ v hv
  rcases List.mem_append.1 hv with hv | hv
  · rcases List.mem_append.1 hv with hv | hv
    · simp only [List.mem_cons, List.not_mem_nil, or_false] at hv
      rcases hv with rfl | rfl <;> rfl
    · exact oneCell_bytes _ v hv
  · simp only [List.mem_cons, List.not_mem_nil, or_false] at hv
    rcases hv with rfl | rfl | rfl <;> rfl
/-- another commit, put into a light block -/
theorem LtR.put_commit (d : HeaderD) (hd : d.wf) (h r h' r' : Int) (b b' : List UInt8) (hb : b.length = 32) (hb' : b'.length = 32) (a1 a2 a3 a4 : Option Addr) (n1 k1 n2 k2 n3 k3 n4 k4 : Nat) :
    (⟨d, h, r, b, a1, n1, k1, a2, n2, k2, a3, n3, k3⟩ : LtR).cells.take 163 ++ commitV h' r' b' (.slice a4 n4 k4) ++ (⟨d, h, r, b, a1, n1, k1, a2, n2, k2, a3, n3, k3⟩ : LtR).cells.drop (163 + (commitV h' r' b' (.slice a4 n4 k4)).length) = (⟨d, h', r', b', a4, n4, k4, a2, n2, k2, a3, n3, k3⟩ : LtR).cells := by
  rw [commitV_len _ _ _ _ hb']
  have hl := d.cells_length hd
  have h2 : (Lib.byteCells b).length = 32 := by rw [Lib.byteCells_length, hb]
  unfold LtR.cells LtR.mid commitV
  dsimp only
  obtain ⟨D, hD⟩ : ∃ D, d.cells = D := ⟨_, rfl⟩
  obtain ⟨B, hB⟩ : ∃ B, Lib.byteCells b = B := ⟨_, rfl⟩
  rw [hD] at hl ⊢; rw [hB] at h2 ⊢
  rw [List.take_left' hl, List.drop_append, List.drop_eq_nil_of_le (by omega), hl, List.nil_append, List.drop_append, List.drop_eq_nil_of_le (by simp; omega)]
  have e : (163 + 35 - 163 - (([.int .i64 h, .int .i64 r] : List Value) ++ B).length) = 1 := by simp; omega
  rw [e]
  simp
/-- a slice in a block of the call's own reads -/
theorem rds_blk {w : World} {g n k : Nat} {cs : List Value} {T : TypeId} (h : Blk w g cs T) (hl : cs.length = n * k) (c : Nat) (hc : n ≤ c) (hc2 : c ≤ maxLen) : RdS w.heap.size w (.slice (some ⟨g, 0, none⟩) n c) n k cs :=
  ⟨_, _, rfl, hc, hc2, hl, .inr ⟨g, 0, rfl, h.lt, h.row⟩⟩
theorem sizeSigI {r s : Int} : (Tryz.prog.info? 126).map (·.size) = some ([.int .u64 r, .int .u64 s] : List Value).length := by rw [show ([.int .u64 r, .int .u64 s] : List Value).length = ([.int .u64 0, .int .u64 0] : List Value).length from rfl]; exact sizeSig2
theorem lt_wf {d : HeaderD} (hd : d.wf) {b : List UInt8} (hb : b.length = 32) {h r : Int} {a1 a2 a3 : Option Addr} {n1 n2 n3 k1 k2 k3 : Nat} (l1 : n1 ≤ 1) (l2 : n2 ≤ 1) (l3 : n3 ≤ 1) : (⟨d, h, r, b, a1, n1, k1, a2, n2, k2, a3, n3, k3⟩ : LtR).wf :=
  ⟨hd, hb, by show n1 ≤ maxLen; unfold maxLen; omega, by show n2 ≤ maxLen; unfold maxLen; omega, by show n3 ≤ maxLen; unfold maxLen; omega⟩
theorem key5_ok : keyOk 5 = true := by decide +kernel
def OneAt (h t : Int) (last : List UInt8) (w : World) (e : Ending) (w' : World) : Prop :=
  ∃ x : LtR, e = .returned (.agg x.cells.toArray) ∧ x.of w'.heap.size w' (oneL h t last) ∧ w.grownBy w' none
theorem set5_hash : vhashL set5 = setHash set5 := by unfold vhashL; rw [if_pos right5]
theorem set5_err : errV set5 = 0 := by unfold errV; rw [if_pos right5]
theorem set5_wf : ∀ d ∈ set5, d.wf := (one_wf (h := 1) (t := 1) (last := z32) (by unfold i64R; decide) (by unfold i64R; decide) rfl).set
theorem sign5 {h : Int} {b : List UInt8} (hh : 1 ≤ h ∧ h ≤ 1099511627776) : signL 5 (vote5 h b) = ((vote5 h b).by (pw 37 5) (sgR 5 (encVote (vote5 h b).bare)) (sgS 5 (encVote (vote5 h b).bare)), 0) := by
  unfold signL; rw [if_pos (vote5_ok hh), if_pos key5_ok]
section
variable {P : Program} {ops : Array Oper} {rest : List Oper} {o : Oper} {a : Act} {w0 w : World} {Q : Exit → Act → World → Prop} {L : List (Nat × List Value × TypeId)}
/-- a struct or an array, out of a block that was there before -/
theorem wpList_old_part (ty : TypeId) (x : Operand) (ho : o.op = .load ty x) (g k : Nat) (hx : a.eval x = .pointer (some ⟨g, k, none⟩)) (vs : List Value) (d : TypeDesc) (hr : RowAt w0 g k vs) (O : Own w0 w L)
    (hu : P.underlying ty = some d) (hd : (match d with | .struct _ | .array _ _ => true | _ => false) = true) (hi : (P.info? ty).map (·.size) = some vs.length)
    (hgd : Region.wanted o (yielded ops a.tmps) = true) (h : wpList P ops Q rest (a.put o.dst (.agg vs.toArray)) w) : wpList P ops Q (o :: rest) a w :=
  wpList_load_part hgd ty x ho g k hx vs d (hr.grown O.grown (by simp)) hu hd hi h
end
def ZOpt : List Value := [.float .f64 0, .float .f64 0, .float .f64 0]
theorem ZOpt_info : (Tryz.prog.info? 43).map (fun i => i.zero.map (fun v => v.cells)) = some (some ZOpt.toArray) := by kernel_rfl
theorem bOpt15 : Tryz.prog.built 43 [(0, .float .f64 4602678819172646912), (1, .float .f64 4636737291354636288), (2, .float .f64 4607182418800017408)] = some opt15.cells.toArray := by kernel_rfl
theorem opt_one {o : OptD} : ∀ v ∈ o.cells, v.oneCell' = true := by
  intro v hv
  unfold OptD.cells at hv
  simp only [List.mem_cons, List.not_mem_nil, or_false] at hv
  rcases hv with rfl | rfl | rfl <;> rfl
theorem opt15_wf : opt15.wf := ⟨by decide, by decide, by decide⟩
theorem a15_wf : a15.wf := one_wf (by unfold i64R; decide) (by unfold i64R; decide) rfl
theorem b15_wf : b15.wf := one_wf (by unfold i64R; decide) (by unfold i64R; decide) (hdrHash_len _)
/-! Walk: nunciolaw15.Few -/
def fewLt (l : LtR) : Bool := decide ((l.tn : Int) ≤ 20) && (decide ((l.nn : Int) ≤ 20) && decide ((l.sn : Int) ≤ 20))
set_option maxHeartbeats 1000000 in
theorem Few_ok (x : LtR) (w : World) (hx : x.wf) : Calls Tryz.prog 8 #[.agg x.cells.toArray] w fun e w' => e = .returned (.bool (fewLt x)) ∧ w.grownBy w' none := by
  have HX := Lib.hid hx
  clear hx
  cases q1 : decide ((x.tn : Int) ≤ 20) with
  | false =>
    have E := Lib.hid (show fewLt x = false by unfold fewLt; rw [q1]; rfl)
    have d1 : decide ((x.tn : Int) ≤ 20) = false := q1
    clear q1
    go_enter Tryz.func8, Tryz.ntmps8
    go_wp2_with (first | (refine wpList_box_as rfl 31 _ rfl x.cells rfl ?_))
    intro w1 b1 g1 s1
    have c1 := LtR.set_at b1.row HX.out; have c2 := LtR.next_at b1.row HX.out; have c3 := LtR.seals_at b1.row HX.out
    rw [Nat.zero_add] at c1 c2 c3
    have G1 := Lib.hid g1
    clear b1 g1 s1
    go_wp2
    go_ret
    rw [E.out]
    exact ⟨rfl, G1.out⟩
  | true => 
    have d1 : decide ((x.tn : Int) ≤ 20) = true := q1
    cases q2 : decide ((x.nn : Int) ≤ 20) with
    | false =>
      have E := Lib.hid (show fewLt x = false by unfold fewLt; rw [q1, q2]; rfl)
      have d2 : decide ((x.nn : Int) ≤ 20) = false := q2
      clear q1 q2
      go_enter Tryz.func8, Tryz.ntmps8
      go_wp2_with (first | (refine wpList_box_as rfl 31 _ rfl x.cells rfl ?_))
      intro w1 b1 g1 s1
      have c1 := LtR.set_at b1.row HX.out; have c2 := LtR.next_at b1.row HX.out; have c3 := LtR.seals_at b1.row HX.out
      rw [Nat.zero_add] at c1 c2 c3
      have G1 := Lib.hid g1
      clear b1 g1 s1
      go_wp2
      go_ret
      rw [E.out]
      exact ⟨rfl, G1.out⟩
    | true =>
      have d2 : decide ((x.nn : Int) ≤ 20) = true := q2
      obtain ⟨q, hq⟩ : ∃ q, decide ((x.sn : Int) ≤ 20) = q := ⟨_, rfl⟩
      have E := Lib.hid (show fewLt x = q by unfold fewLt; rw [q1, q2, hq]; rfl)
      clear q1 q2
      go_enter Tryz.func8, Tryz.ntmps8
      go_wp2_with (first | (refine wpList_box_as rfl 31 _ rfl x.cells rfl ?_))
      intro w1 b1 g1 s1
      have c1 := LtR.set_at b1.row HX.out; have c2 := LtR.next_at b1.row HX.out; have c3 := LtR.seals_at b1.row HX.out
      rw [Nat.zero_add] at c1 c2 c3
      have G1 := Lib.hid g1
      clear b1 g1 s1
      go_wp2
      go_ret
      rw [E.out]
      exact ⟨rfl, G1.out⟩

theorem few_lens {B : Nat} {w : World} {x : LtR} {l : LightD} (h : x.of B w l) : fewLt x = true ↔ l.set.length ≤ 20 ∧ l.next.length ≤ 20 ∧ l.commit.seals.length ≤ 20 := by
  unfold fewLt
  rw [h.sn, h.tn, h.nn]
  simp only [Bool.and_eq_true, decide_eq_true_eq]
  omega
theorem few_seals {B : Nat} {w : World} {x : LtR} {l : LightD} (h : x.of B w l) : fewLt x = true → l.commit.seals.length ≤ 20 := fun hf => ((few_lens h).1 hf).2.2

end Go.Proofs.YtbhghlendbcejaaGreatDoor
