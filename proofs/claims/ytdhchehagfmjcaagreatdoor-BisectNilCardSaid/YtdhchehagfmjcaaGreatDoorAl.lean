/- Structs that are built of some of their parts. Walk: the laws' light blocks of one validator. Walk: the live question of the light client's laws. -/
import Derived.Test.YtdhchehagfmjcaaGreatDoorOw
import Derived.Test.YtdhchehagfmjcaaGreatDoorLx
import Derived.Test.YtdhchehagfmjcaaGreatDoorVf
import Derived.Test.YtdhchehagfmjcaaGreatDoorSchR
import Derived.Test.YtdhchehagfmjcaaGreatDoorVs
namespace Go.Proofs.YtdhchehagfmjcaaGreatDoor
open Go.RowKit
set_option maxRecDepth 100000

def putC (z : List Value) (off : Nat) (v : Value) : List Value := z.take off ++ v.cells.toList ++ z.drop (off + v.cells.size)
theorem putC_len {z : List Value} {off : Nat} {v : Value} (h : off + v.cells.size ≤ z.length) : (putC z off v).length = z.length := by
  unfold putC
  simp
  omega
theorem fill_val (pl : Nat → Option (Nat × Nat)) (i off : Nat) (v : Value) (z : List Value) (rest : List (Nat × Value)) (hp : pl i = some (off, v.cells.size)) (hl : off + v.cells.size ≤ z.length) :
    Instr.fill pl z.toArray ((i, v) :: rest) = Instr.fill pl (putC z off v).toArray rest := by
  have hz : z = z.take off ++ (z.drop off).take v.cells.size ++ z.drop (off + v.cells.size) := by
    rw [List.append_assoc, ← List.drop_drop, List.take_append_drop, List.take_append_drop]
  have hpre : (z.take off).length = off := by rw [List.length_take]; omega
  have hmid : v.cells.toList.length = ((z.drop off).take v.cells.size).length := by
    have e1 : v.cells.toList.length = v.cells.size := Array.length_toList
    have e2 : ((z.drop off).take v.cells.size).length = v.cells.size := by rw [List.length_take, List.length_drop]; omega
    rw [e1, e2]
  have f := fold_part (z.take off) ((z.drop off).take v.cells.size) (z.drop (off + v.cells.size)) v.cells.toList hmid
  rw [hpre, ← hz] at f
  conv => lhs; unfold Instr.fill
  simp only [hp]
  rw [if_neg (by simp; omega)]
  have f' : (v.cells.zipIdx.foldl (fun cs (x : Value × Nat) => cs.setIfInBounds (off + x.2) x.1) z.toArray) = (putC z off v).toArray := by
    rw [← Array.foldl_toList, Array.toList_zipIdx, f]
    rfl
  rw [f']
def puts (pl : Nat → Option (Nat × Nat)) (z : List Value) : List (Nat × Value) → List Value
  | [] => z
  | x :: r => puts pl (putC z (((pl x.1).map (·.1)).getD 0) x.2) r
theorem fill_puts (pl : Nat → Option (Nat × Nat)) : ∀ (ps : List (Nat × Value)) (z : List Value), (∀ x ∈ ps, ∃ off, pl x.1 = some (off, x.2.cells.size) ∧ off + x.2.cells.size ≤ z.length) → Instr.fill pl z.toArray ps = some (puts pl z ps).toArray
  | [], z, _ => rfl
  | (i, v) :: r, z, h => by
    obtain ⟨off, h1, h2⟩ := h (i, v) (by simp)
    dsimp only at h1 h2
    rw [fill_val pl i off v z r h1 h2, fill_puts pl r _ (fun x hx => by
      obtain ⟨o, k1, k2⟩ := h x (by simp [hx])
      exact ⟨o, k1, by rw [putC_len h2]; exact k2⟩)]
    have e : puts pl z ((i, v) :: r) = puts pl (putC z (((pl i).map (·.1)).getD 0) v) r := rfl
    rw [e, h1]; rfl
section
variable {P : Program}
theorem built_puts (t : TypeId) (fields : Array Field) (places : List (Nat × Nat)) (z : List Value) (ps : List (Nat × Value)) (hu : P.underlying t = some (.struct fields))
    (hp : fields.toList.mapM (fun f => (P.info? f.type).map fun i => (f.offset, i.size)) = some places)
    (hz : (P.info? t).map (fun i => i.zero.map (fun v => v.cells)) = some (some z.toArray))
    (h : ∀ x ∈ ps, ∃ off, places.toArray[x.1]? = some (off, x.2.cells.size) ∧ off + x.2.cells.size ≤ z.length) (cs : List Value) (e : puts (places.toArray[·]?) z ps = cs) : P.built t ps = some cs.toArray := by
  subst e
  unfold Program.built
  cases hi : P.info? t with
  | none => simp [hi] at hz
  | some it =>
    cases hzz : it.zero with
    | none => simp [hi, hzz] at hz
    | some v =>
      have hs : v.cells = z.toArray := by simpa [hi, hzz] using hz
      simp only [hu, hp, hzz, hs]
      exact fill_puts _ ps z h
end
theorem agg_size (l : List Value) : (Value.agg l.toArray).cells.size = l.length := by simp [Value.cells]
theorem agg_cells (l : List Value) : (Value.agg l.toArray).cells.toList = l := by simp [Value.cells]
theorem bVoteG (c : ByteArray) (h t : Int) (l : List UInt8) (hl : l.length = 32) : Tryz.prog.built 54 [(0, .string c), (1, .int .i64 h), (3, .int .i64 t), (4, .agg (Lib.byteCells l).toArray)] = some (⟨c, h, 0, t, l, 0, 0, 0⟩ : VoteD).cells.toArray := by
  have hs : (Value.agg (Lib.byteCells l).toArray).cells.size = 32 := by rw [agg_size, Lib.byteCells_length, hl]
  refine built_puts 54 _ [(0, 1), (1, 1), (2, 1), (3, 1), (4, 32), (36, 1), (37, 2)] ZVote _ Tryz.underlying54 (by kernel_rfl) ZVote_info ?_ _ ?_
  · intro x hx
    simp only [List.mem_cons, List.not_mem_nil, or_false] at hx
    rcases hx with rfl | rfl | rfl | rfl
    · exact ⟨0, rfl, Nat.le_of_ble_eq_true rfl⟩
    · exact ⟨1, rfl, Nat.le_of_ble_eq_true rfl⟩
    · exact ⟨3, rfl, Nat.le_of_ble_eq_true rfl⟩
    · exact ⟨4, by rw [hs]; rfl, by rw [hs]; decide⟩
  · show putC ([.string c, .int .i64 h, .int .i64 0, .int .i64 t] ++ Lib.byteCells (List.replicate 32 0) ++ [.int .u64 0, .int .u64 0, .int .u64 0]) 4 (.agg (Lib.byteCells l).toArray) = _
    unfold putC
    rw [hs, agg_cells]
    unfold VoteD.cells
    rfl
theorem bHdrG (c : ByteArray) (h t : Int) (l s n : List UInt8) (hl : l.length = 32) (hs : s.length = 32) (hn : n.length = 32) :
    Tryz.prog.built 25 [(0, .string c), (1, .int .i64 h), (2, .int .i64 t), (3, .agg (Lib.byteCells l).toArray), (4, .agg (Lib.byteCells s).toArray), (5, .agg (Lib.byteCells n).toArray)] = some (⟨c, h, t, l, s, n, z32, z32⟩ : HeaderD).cells.toArray := by
  have hb := built_pre (P := Tryz.prog) 25 _ [(0, 1), (1, 1), (2, 1), (3, 32), (35, 32), (67, 32), (99, 32), (131, 32)] [.string c, .int .i64 h, .int .i64 t, .agg (Lib.byteCells l).toArray, .agg (Lib.byteCells s).toArray, .agg (Lib.byteCells n).toArray] ZHeader (ZHeader.take 99) (ZHeader.drop 99) Tryz.underlying25 (by kernel_rfl) ZHeader_info rfl
    (by simp [flatCells, Value.cells, Lib.byteCells_length, hl, hs, hn]; rfl) ⟨rfl, rfl, rfl, by simp [Value.cells, Lib.byteCells_length, hl], by simp [Value.cells, Lib.byteCells_length, hl, hs], by simp [Value.cells, Lib.byteCells_length, hl, hs, hn], trivial⟩
  have e : flatCells [.string c, .int .i64 h, .int .i64 t, .agg (Lib.byteCells l).toArray, .agg (Lib.byteCells s).toArray, .agg (Lib.byteCells n).toArray] ++ ZHeader.drop 99 = (⟨c, h, t, l, s, n, z32, z32⟩ : HeaderD).cells := by
    have e2 : ZHeader.drop 99 = Lib.byteCells z32 ++ Lib.byteCells z32 := by rfl
    rw [e2]
    simp [flatCells, Value.cells, HeaderD.cells]
  rw [e] at hb
  exact hb
def ZLt0 : List Value := ZHeader ++ (ZCommit ++ [.slice none 0 0, .slice none 0 0])
theorem ZLt0_info : (Tryz.prog.info? 31).map (fun i => i.zero.map (fun v => v.cells)) = some (some ZLt0.toArray) := by kernel_rfl
/-- a light block without a commit -/
theorem bLightG (d : HeaderD) (hd : d.wf) (a b : Option Addr) (m k m' k' : Nat) :
    Tryz.prog.built 31 [(0, .agg d.cells.toArray), (2, .slice a m k), (3, .slice b m' k')] = some (⟨d, 0, 0, z32, none, 0, 0, a, m, k, b, m', k'⟩ : LtR).cells.toArray := by
  have hs : (Value.agg d.cells.toArray).cells.size = 163 := by rw [agg_size, d.cells_length hd]
  refine built_puts 31 _ [(0, 163), (163, 35), (198, 1), (199, 1)] ZLt0 _ Tryz.underlying31 (by kernel_rfl) ZLt0_info ?_ _ ?_
  · intro x hx
    simp only [List.mem_cons, List.not_mem_nil, or_false] at hx
    rcases hx with rfl | rfl | rfl
    · exact ⟨0, by rw [hs]; rfl, by rw [hs]; decide⟩
    · exact ⟨198, rfl, Nat.le_of_ble_eq_true rfl⟩
    · exact ⟨199, rfl, Nat.le_of_ble_eq_true rfl⟩
  · have e1 : putC ZLt0 0 (.agg d.cells.toArray) = d.cells ++ ([.int .i64 0, .int .i64 0] ++ Lib.byteCells z32 ++ [.slice none 0 0, .slice none 0 0, .slice none 0 0]) := by
      unfold putC
      rw [hs, agg_cells]
      rfl
    show putC (putC (putC ZLt0 0 (.agg d.cells.toArray)) 198 (.slice a m k)) 199 (.slice b m' k') = _
    rw [e1]
    have hl := d.cells_length hd
    obtain ⟨D, hD⟩ : ∃ D, d.cells = D := ⟨_, rfl⟩
    rw [hD] at hl
    unfold LtR.cells LtR.mid
    dsimp only
    rw [hD]
    have key : ∀ (T : List Value) (o : Nat) (v : Value), v.cells.toList = [v] → v.cells.size = 1 → putC (D ++ T) (163 + o) v = D ++ (T.take o ++ [v] ++ T.drop (o + 1)) := by
      intro T o v h1 h2
      unfold putC
      rw [h1, h2, List.take_append, List.take_of_length_le (by omega), hl, show 163 + o - 163 = o by omega, List.drop_append, List.drop_eq_nil_of_le (by omega), hl, show 163 + o + 1 - 163 = o + 1 by omega]
      simp
    rw [key _ 35 _ rfl rfl, key _ 36 _ rfl rfl]
    rfl
theorem bSealG (k r s : Int) : Tryz.prog.built 51 [(0, .int .u64 k), (1, .agg #[.int .u64 r, .int .u64 s])] = some (⟨k, r, s⟩ : SealD).cells.toArray := by kernel_rfl
theorem bValG (k p : Int) : Tryz.prog.built 115 [(0, .int .u64 k), (1, .int .i64 p)] = some (⟨k, p⟩ : ValD).cells.toArray := by kernel_rfl
theorem bCommitG (h : Int) (l : List UInt8) (hl : l.length = 32) (a : Option Addr) (m k : Nat) : Tryz.prog.built 28 [(0, .int .i64 h), (2, .agg (Lib.byteCells l).toArray), (3, .slice a m k)] = some (commitV h 0 l (.slice a m k)).toArray := by
  have hs : (Value.agg (Lib.byteCells l).toArray).cells.size = 32 := by rw [agg_size, Lib.byteCells_length, hl]
  refine built_puts 28 _ [(0, 1), (1, 1), (2, 32), (34, 1)] ZCommit _ Tryz.underlying28 (by kernel_rfl) ZCommit_info ?_ _ ?_
  · intro x hx
    simp only [List.mem_cons, List.not_mem_nil, or_false] at hx
    rcases hx with rfl | rfl | rfl
    · exact ⟨0, rfl, Nat.le_of_ble_eq_true rfl⟩
    · exact ⟨2, by rw [hs]; rfl, by rw [hs]; decide⟩
    · exact ⟨34, rfl, Nat.le_of_ble_eq_true rfl⟩
  · have e1 : putC (putC ZCommit 0 (.int .i64 h)) 2 (.agg (Lib.byteCells l).toArray) = [.int .i64 h, .int .i64 0] ++ Lib.byteCells l ++ [.slice none 0 0] := by
      have : putC ZCommit 0 (.int .i64 h) = [.int .i64 h, .int .i64 0] ++ Lib.byteCells (List.replicate 32 0) ++ [.slice none 0 0] := rfl
      rw [this]
      unfold putC
      rw [hs, agg_cells]
      rfl
    show putC (putC (putC ZCommit 0 (.int .i64 h)) 2 (.agg (Lib.byteCells l).toArray)) 34 (.slice a m k) = _
    rw [e1]
    unfold putC commitV
    have hb : (Lib.byteCells l).length = 32 := by rw [Lib.byteCells_length, hl]
    obtain ⟨B, hB⟩ : ∃ B, Lib.byteCells l = B := ⟨_, rfl⟩
    rw [hB] at hb ⊢
    have h1 : (([.int .i64 h, .int .i64 0] : List Value) ++ B).length = 34 := by simp [hb]
    have h2 : (Value.slice a m k).cells.toList = [.slice a m k] := rfl
    have h3 : (Value.slice a m k).cells.size = 1 := rfl
    rw [h2, h3, List.take_left' h1, List.drop_append, List.drop_eq_nil_of_le (by omega), h1]
    simp
section
variable {P : Program} {ops : Array Oper} {rest : List Oper} {o : Oper} {a : Act} {w0 w : World} {Q : Exit → Act → World → Prop} {L : List (Nat × List Value × TypeId)}
/-- a slice of one thing -/
theorem wpList_own_one (hgd : Region.wanted o (yielded ops a.tmps) = true) (t : TypeId) (x : Operand) (ho : o.op = .buildSlice t 1 #[(0, x)]) (cs : List Value) (hx : a.eval x = .agg cs.toArray)
    (e : TypeId) (z : Value) (size : Nat) (ht : P.underlying t = some (.slice e)) (hi : (P.info? e).map (fun i => (i.zero, i.size)) = some (some z, size)) (hcs : cs.length = size) (hsz : size ≤ 1000) (O : Own w0 w L)
    (h : ∀ b w2, Own w0 w2 ((b, cs, e) :: L) → wpList P ops Q rest (a.put o.dst (.slice (some ⟨b, 0, none⟩) 1 1)) w2) : wpList P ops Q (o :: rest) a w :=
  wpList_buildSlice_all hgd t 1 _ ho [.agg cs.toArray] (by simp [hx]) rfl cs (by simp [flatCells, Value.cells]) e z size ht hi (by intro v hv; simp at hv; subst hv; rw [agg_size]; exact hcs) (by simp; omega) fun w2 b g _ => h _ w2 (O.new b g)
end

theorem val_z : (Tryz.prog.info? 115).map (fun i => (i.zero, i.size)) = some (some (.agg #[.int .u64 0, .int .i64 0]), 2) := by kernel_rfl
theorem seal_z : (Tryz.prog.info? 51).map (fun i => (i.zero, i.size)) = some (some (.agg #[.int .u64 0, .int .u64 0, .int .u64 0]), 3) := by kernel_rfl
theorem ZLt0_one : ∀ v ∈ ZLt0, v.oneCell' = true := fun v hv => List.all_eq_true.1 (show ZLt0.all (·.oneCell') = true by kernel_rfl) v hv
theorem LtR_one (x : LtR) : ∀ v ∈ x.cells, v.oneCell' = true := by
  intro v hv
  unfold LtR.cells LtR.mid at hv
  rcases List.mem_append.1 hv with hv | hv
  · exact HeaderD_one _ v hv
  rcases List.mem_append.1 hv with hv | hv
  · rcases List.mem_append.1 hv with hv | hv
    · simp only [List.mem_cons, List.not_mem_nil, or_false] at hv
      rcases hv with rfl | rfl <;> rfl
    · exact oneCell_bytes _ v hv
  · simp only [List.mem_cons, List.not_mem_nil, or_false] at hv
    rcases hv with rfl | rfl | rfl <;> rfl
/-- another commit, put into a light block -/
theorem LtR.put_commit (d : HeaderD) (hd : d.wf) (h r h' r' : Int) (b b' : List UInt8) (hb : b.length = 32) (hb' : b'.length = 32) (a1 a2 a3 a4 : Option Addr) (n1 k1 n2 k2 n3 k3 n4 k4 : Nat) :
    (⟨d, h, r, b, a1, n1, k1, a2, n2, k2, a3, n3, k3⟩ : LtR).cells.take 163 ++ commitV h' r' b' (.slice a4 n4 k4) ++ (⟨d, h, r, b, a1, n1, k1, a2, n2, k2, a3, n3, k3⟩ : LtR).cells.drop (163 + (commitV h' r' b' (.slice a4 n4 k4)).length) = (⟨d, h', r', b', a4, n4, k4, a2, n2, k2, a3, n3, k3⟩ : LtR).cells := by
  rw [commitV_len _ _ _ _ hb']
  have hl := d.cells_length hd
  have h2 : (Lib.byteCells b).length = 32 := by rw [Lib.byteCells_length, hb]
  unfold LtR.cells LtR.mid commitV
  dsimp only
  obtain ⟨D, hD⟩ : ∃ D, d.cells = D := ⟨_, rfl⟩
  obtain ⟨B, hB⟩ : ∃ B, Lib.byteCells b = B := ⟨_, rfl⟩
  rw [hD] at hl ⊢; rw [hB] at h2 ⊢
  rw [List.take_left' hl, List.drop_append, List.drop_eq_nil_of_le (by omega), hl, List.nil_append, List.drop_append, List.drop_eq_nil_of_le (by simp; omega)]
  have e : (163 + 35 - 163 - (([.int .i64 h, .int .i64 r] : List Value) ++ B).length) = 1 := by simp; omega
  rw [e]
  simp
/-- a slice in a block of the call's own reads -/
theorem rds_blk {w : World} {g n k : Nat} {cs : List Value} {T : TypeId} (h : Blk w g cs T) (hl : cs.length = n * k) (c : Nat) (hc : n ≤ c) (hc2 : c ≤ maxLen) : RdS w.heap.size w (.slice (some ⟨g, 0, none⟩) n c) n k cs :=
  ⟨_, _, rfl, hc, hc2, hl, .inr ⟨g, 0, rfl, h.lt, h.row⟩⟩
theorem sizeSigI {r s : Int} : (Tryz.prog.info? 49).map (·.size) = some ([.int .u64 r, .int .u64 s] : List Value).length := by rw [show ([.int .u64 r, .int .u64 s] : List Value).length = ([.int .u64 0, .int .u64 0] : List Value).length from rfl]; exact sizeSig2
theorem lt_wf {d : HeaderD} (hd : d.wf) {b : List UInt8} (hb : b.length = 32) {h r : Int} {a1 a2 a3 : Option Addr} {n1 n2 n3 k1 k2 k3 : Nat} (l1 : n1 ≤ 1) (l2 : n2 ≤ 1) (l3 : n3 ≤ 1) : (⟨d, h, r, b, a1, n1, k1, a2, n2, k2, a3, n3, k3⟩ : LtR).wf :=
  ⟨hd, hb, by show n1 ≤ maxLen; unfold maxLen; omega, by show n2 ≤ maxLen; unfold maxLen; omega, by show n3 ≤ maxLen; unfold maxLen; omega⟩
theorem key5_ok : keyOk 5 = true := by decide +kernel
def OneAt (h t : Int) (last : List UInt8) (w : World) (e : Ending) (w' : World) : Prop :=
  ∃ x : LtR, e = .returned (.agg x.cells.toArray) ∧ x.of w'.heap.size w' (oneL h t last) ∧ w.grownBy w' none
theorem set5_hash : vhashL set5 = setHash set5 := by unfold vhashL; rw [if_pos right5]
theorem set5_err : errV set5 = 0 := by unfold errV; rw [if_pos right5]
theorem set5_wf : ∀ d ∈ set5, d.wf := (one_wf (h := 1) (t := 1) (last := z32) (by unfold i64R; decide) (by unfold i64R; decide) rfl).set
theorem sign5 {h : Int} {b : List UInt8} (hh : 1 ≤ h ∧ h ≤ 1099511627776) : signL 5 (vote5 h b) = ((vote5 h b).by (pw 37 5) (sgR 5 (encVote (vote5 h b).bare)) (sgS 5 (encVote (vote5 h b).bare)), 0) := by
  unfold signL; rw [if_pos (vote5_ok hh), if_pos key5_ok]
set_option maxHeartbeats 8000000 in
theorem one_ok (h t : Int) (last : List UInt8) (w0 : World) (hh : 1 ≤ h ∧ h ≤ 1099511627776) (ht : i64R t) (hl : last.length = 32) :
    Calls Tryz.prog 50 #[.int .i64 h, .int .i64 t, .agg (Lib.byteCells last).toArray] w0 (OneAt h t last w0) := by
  have O := Own.start w0
  have hhr : i64R h := ⟨by omega, by omega⟩
  have CK := fun w => RKey_ok 5 w (by decide)
  rw [if_pos key5_ok, if_pos key5_ok] at CK
  have CS : ∀ (w : World) (g : Nat) (T : TypeId), Blk w g (setCells set5) T → Calls Tryz.prog 29 #[.slice (some ⟨g, 0, none⟩) 1 1] w fun e w' => e = .returned (.tuple #[.agg (Lib.byteCells (setHash set5)).toArray, .int .i64 0]) ∧ w.grownBy w' none := fun w g T hb => by
    have := RHashV_ok (.slice (some ⟨g, 0, none⟩) 1 1) set5 w set5_wf (rds_blk hb rfl 1 (Nat.le_refl _) (by unfold maxLen; omega)) (Nat.le_refl _)
    rw [set5_hash, set5_err] at this
    exact this
  have hdw := hdr5_wf hhr ht hl
  have CH := fun w => RHeaderHash (hdr5 h t last) w hdw (by show ([97] : List UInt8).length ≤ _; decide)
  unfold RHashes at CH
  have hv := vote5_wf (h := h) (b := hdrHash (hdr5 h t last)) hhr (hdrHash_len _)
  have CV := fun w => RTSign_ok 5 (vote5 h (hdrHash (hdr5 h t last))) w (by decide) hv (by show ([97] : List UInt8).length ≤ _; decide)
  rw [sign5 hh] at CV
  have EX1 : blake (2 :: encHeader (hdr5 h t last)) = hdrHash (hdr5 h t last) := rfl
  rw [EX1] at CH
  have vsz : ((vote5 h (hdrHash (hdr5 h t last))).by (pw 37 5) (sgR 5 (encVote (vote5 h (hdrHash (hdr5 h t last))).bare)) (sgS 5 (encVote (vote5 h (hdrHash (hdr5 h t last))).bare))).cells.length = 39 := by_length _ hv _ _ _
  have vone := VoteD_one ((vote5 h (hdrHash (hdr5 h t last))).by (pw 37 5) (sgR 5 (encVote (vote5 h (hdrHash (hdr5 h t last))).bare)) (sgS 5 (encVote (vote5 h (hdrHash (hdr5 h t last))).bare)))
  have vsig : ∀ (w : World) (g : Nat), RowAt w g 0 ((vote5 h (hdrHash (hdr5 h t last))).by (pw 37 5) (sgR 5 (encVote (vote5 h (hdrHash (hdr5 h t last))).bare)) (sgS 5 (encVote (vote5 h (hdrHash (hdr5 h t last))).bare))).cells → RowAt w g 37 [.int .u64 ((sgR 5 (encVote (vote5 h (hdrHash (hdr5 h t last))).bare) : Nat) : Int), .int .u64 ((sgS 5 (encVote (vote5 h (hdrHash (hdr5 h t last))).bare) : Nat) : Int)] := fun w g hr => by
    refine part_of (k := 37) (n := 2) hr ?_
    unfold VoteD.by VoteD.cells vote5
    dsimp only
    have hb : (Lib.byteCells (hdrHash (hdr5 h t last))).length = 32 := by rw [Lib.byteCells_length, hdrHash_len]
    generalize Lib.byteCells (hdrHash (hdr5 h t last)) = B at *
    rw [List.drop_append, List.drop_eq_nil_of_le (by simp; omega)]
    simp [hb]
  have bH := bHdrG ⟨#[97]⟩ h t last (setHash set5) (setHash set5) hl (setHash_len _) (setHash_len _)
  have bV := bVoteG ⟨#[97]⟩ h 2 (hdrHash (hdr5 h t last)) (hdrHash_len _)
  have E1 : oneL h t last = ⟨hdr5 h t last, ⟨h, 0, hdrHash (hdr5 h t last), [⟨((pw 37 5 : Nat) : Int), ((sgR 5 (encVote (vote5 h (hdrHash (hdr5 h t last))).bare) : Nat) : Int), ((sgS 5 (encVote (vote5 h (hdrHash (hdr5 h t last))).bare) : Nat) : Int)⟩]⟩, [⟨((pw 37 5 : Nat) : Int), 2⟩], [⟨((pw 37 5 : Nat) : Int), 2⟩]⟩ := rfl
  have E2 : setCells set5 = (⟨((pw 37 5 : Nat) : Int), 2⟩ : ValD).cells := rfl
  rw [E2] at CS
  have E3 : (⟨⟨#[97]⟩, h, t, last, setHash set5, setHash set5, z32, z32⟩ : HeaderD) = hdr5 h t last := rfl
  rw [E3] at bH
  have E4 : (⟨⟨#[97]⟩, h, 0, 2, hdrHash (hdr5 h t last), 0, 0, 0⟩ : VoteD) = vote5 h (hdrHash (hdr5 h t last)) := rfl
  rw [E4] at bV
  unfold OneAt
  rw [E1]
  obtain ⟨r, hr⟩ : ∃ r, sgR 5 (encVote (vote5 h (hdrHash (hdr5 h t last))).bare) = r := ⟨_, rfl⟩
  obtain ⟨s, hs⟩ : ∃ r, sgS 5 (encVote (vote5 h (hdrHash (hdr5 h t last))).bare) = r := ⟨_, rfl⟩
  rw [hr, hs] at CV vsz vone vsig ⊢
  obtain ⟨VB, hVB⟩ : ∃ v, (vote5 h (hdrHash (hdr5 h t last))).by (pw 37 5) r s = v := ⟨_, rfl⟩
  rw [hVB] at CV vsz vone vsig
  have hvl := (vote5 h (hdrHash (hdr5 h t last))).cells_length hv
  obtain ⟨VV, hVV⟩ : ∃ v, vote5 h (hdrHash (hdr5 h t last)) = v := ⟨_, rfl⟩
  rw [hVV] at CV bV hvl
  obtain ⟨K, hK⟩ : ∃ k : Int, ((pw 37 5 : Nat) : Int) = k := ⟨_, rfl⟩
  rw [hK] at CK CS ⊢
  have LB := hdrHash_len (hdr5 h t last)
  obtain ⟨BB, hBB⟩ : ∃ b, hdrHash (hdr5 h t last) = b := ⟨_, rfl⟩
  rw [hBB] at CH bV LB ⊢
  have LS := setHash_len set5
  obtain ⟨SS, hSS⟩ : ∃ b, setHash set5 = b := ⟨_, rfl⟩
  rw [hSS] at CS bH LS
  obtain ⟨HH, hHH⟩ : ∃ b, hdr5 h t last = b := ⟨_, rfl⟩
  rw [hHH] at CH bH hdw ⊢
  obtain ⟨RI, hRI⟩ : ∃ x : Int, ((r : Nat) : Int) = x := ⟨_, rfl⟩
  obtain ⟨SI, hSI⟩ : ∃ x : Int, ((s : Nat) : Int) = x := ⟨_, rfl⟩
  rw [hRI, hSI] at vsig ⊢
  replace CK := Lib.hid CK; replace CS := Lib.hid CS; replace CH := Lib.hid CH; replace CV := Lib.hid CV
  have L0 := Lib.hid hl; replace LB := Lib.hid LB; replace LS := Lib.hid LS; have HDW := Lib.hid hdw; replace bH := Lib.hid bH; replace bV := Lib.hid bV
  have VS := Lib.hid vsz; have V1 := Lib.hid vone; have VG := Lib.hid vsig; have BL := Lib.hid (bLightG HH hdw)
  have PC := Lib.hid (fun (h r h' r' : Int) (b b' : List UInt8) hb hb' a1 a2 a3 a4 n1 k1 n2 k2 n3 k3 n4 k4 => LtR.put_commit HH hdw h r h' r' b b' hb hb' a1 a2 a3 a4 n1 k1 n2 k2 n3 k3 n4 k4)
  clear hr hs hVB hVV hK hBB hSS hHH hRI hSI vsz vone vsig hv hdw hh ht hl hhr E1 E2 E3 E4 EX1 hvl
  go_enter Tryz.func50, Tryz.ntmps50
  go_wp2_with (first | ((with_reducible refine @wpList_at _ _ _ _ _ _ _ (.box 23 (.tmp 2)) rfl ?_); refine @wpList_own_box _ _ _ _ _ _ _ _ _ 23 (.tmp 2) rfl (Lib.byteCells last) rfl O rfl ?_; clear O; intro b5 w O) | ((with_reducible refine @wpList_at _ _ _ _ _ _ _ (.alloc 31) rfl ?_); refine @wpList_own_alloc _ _ _ _ _ _ _ _ _ 31 rfl ZLt0 ZLt0_info O rfl ?_; clear O; intro b6 w O))
  refine (CK.out _).mono ?_
  rintro e w' ⟨rfl, rfl⟩
  go_wp2_with (first | ((with_reducible refine @wpList_at _ _ _ _ _ _ _ (.build 115 #[(0, .tmp 21), (1, .const (.int .i64 2))]) rfl ?_); refine wpList_build_eq rfl 115 _ rfl [(0, .int .u64 K), (1, .int .i64 2)] (by kernel_rfl) _ (bValG K 2) ?_) | ((with_reducible refine @wpList_at _ _ _ _ _ _ _ (.buildSlice 29 1 #[(0, .tmp 22)]) rfl ?_); refine wpList_own_one rfl 29 (.tmp 22) rfl (⟨K, 2⟩ : ValD).cells rfl 115 _ 2 Tryz.underlying29 val_z rfl (by decide) O ?_; clear O; intro gv w O))
  refine (CS.out _ _ _ (O.at_ 0 rfl)).mono ?_
  rintro e w ⟨rfl, g⟩
  replace O := O.call g
  clear g
  go_wp2_with (first | ((with_reducible refine @wpList_at _ _ _ _ _ _ _ (.alloc 23) rfl ?_); refine @wpList_own_alloc _ _ _ _ _ _ _ _ _ 23 rfl ZH ZH_info O rfl ?_; clear O; intro p10 w O) | ((with_reducible refine @wpList_at _ _ _ _ _ _ _ (.store 23 (.tmp 10) (.tmp 27)) rfl ?_); refine @wpList_own_store _ _ _ _ _ _ _ _ _ 23 (.tmp 10) (.tmp 27) rfl O 0 p10 rfl (Lib.byteCells SS) ZH _ rfl rfl (by rw [Lib.byteCells_length, LS.out]; rfl) (oneCell_bytes _) (sizeH _ (by rw [Lib.byteCells_length, LS.out])) rfl ?_; clear O; intro w O; simp only [List.set_cons_zero] at O) | ((with_reducible refine @wpList_at _ _ _ _ _ _ _ (.load 23 (.tmp 5)) rfl ?_); refine @wpList_own_whole _ _ _ _ _ _ _ _ _ 23 (.tmp 5) rfl O 3 b5 rfl (Lib.byteCells last) _ rfl _ Tryz.underlying23 rfl (sizeH _ (by rw [Lib.byteCells_length, L0.out])) rfl ?_) | ((with_reducible refine @wpList_at _ _ _ _ _ _ _ (.load 23 (.tmp 10)) rfl ?_); refine @wpList_own_whole _ _ _ _ _ _ _ _ _ 23 (.tmp 10) rfl O 0 p10 rfl (Lib.byteCells SS) _ rfl _ Tryz.underlying23 rfl (sizeH _ (by rw [Lib.byteCells_length, LS.out])) rfl ?_) | ((with_reducible refine @wpList_at _ _ _ _ _ _ _ (.build 25 #[(0, .const (.string { data := #[97] })), (1, .tmp 29), (2, .tmp 30), (3, .tmp 31), (4, .tmp 32), (5, .tmp 33)]) rfl ?_); refine wpList_build_eq rfl 25 _ rfl [(0, .string ⟨#[97]⟩), (1, .int .i64 h), (2, .int .i64 t), (3, .agg (Lib.byteCells last).toArray), (4, .agg (Lib.byteCells SS).toArray), (5, .agg (Lib.byteCells SS).toArray)] (by kernel_rfl) _ bH.out ?_) | ((with_reducible refine @wpList_at _ _ _ _ _ _ _ (.build 31 #[(0, .tmp 34), (2, .tmp 35), (3, .tmp 36)]) rfl ?_); refine wpList_build_eq rfl 31 _ rfl [(0, .agg HH.cells.toArray), (2, .slice (some ⟨gv, 0, none⟩) 1 1), (3, .slice (some ⟨gv, 0, none⟩) 1 1)] (by kernel_rfl) _ (BL.out (some ⟨gv, 0, none⟩) (some ⟨gv, 0, none⟩) 1 1 1 1) ?_) | ((with_reducible refine @wpList_at _ _ _ _ _ _ _ (.alloc 31) rfl ?_); refine @wpList_own_alloc _ _ _ _ _ _ _ _ _ 31 rfl ZLt0 ZLt0_info O rfl ?_; clear O; intro b12 w O) | ((with_reducible refine @wpList_at _ _ _ _ _ _ _ (.store 31 (.tmp 12) (.tmp 37)) rfl ?_); refine @wpList_own_store _ _ _ _ _ _ _ _ _ 31 (.tmp 12) (.tmp 37) rfl O 0 b12 rfl (⟨HH, 0, 0, z32, none, 0, 0, some ⟨gv, 0, none⟩, 1, 1, some ⟨gv, 0, none⟩, 1, 1⟩ : LtR).cells ZLt0 _ rfl rfl (LtR.cells_length _ (lt_wf HDW.out rfl (by decide) (by decide) (by decide))) (LtR_one _) (sizeLt _ (lt_wf HDW.out rfl (by decide) (by decide) (by decide))) rfl ?_; clear O; intro w O; simp only [List.set_cons_zero] at O) | ((with_reducible refine @wpList_at _ _ _ _ _ _ _ (.load 25 (.tmp 39)) rfl ?_); refine @wpList_own_part _ _ _ _ _ _ _ _ _ 25 (.tmp 39) rfl O 0 b12 0 rfl _ _ rfl HH.cells _ (fun h => LtR.hdr_at (x := ⟨HH, 0, 0, z32, none, 0, 0, some ⟨gv, 0, none⟩, 1, 1, some ⟨gv, 0, none⟩, 1, 1⟩) h (lt_wf HDW.out rfl (by decide) (by decide) (by decide))) Tryz.underlying25 rfl (sizeHeader _ (HH.cells_length HDW.out)) rfl ?_))
  refine (CH.out _).mono ?_
  rintro e w ⟨rfl, g⟩
  replace O := O.call g
  clear g
  go_wp2_with (first | ((with_reducible refine @wpList_at _ _ _ _ _ _ _ (.alloc 23) rfl ?_); refine @wpList_own_alloc _ _ _ _ _ _ _ _ _ 23 rfl ZH ZH_info O rfl ?_; clear O; intro p13 w O) | ((with_reducible refine @wpList_at _ _ _ _ _ _ _ (.store 23 (.tmp 13) (.tmp 42)) rfl ?_); refine @wpList_own_store _ _ _ _ _ _ _ _ _ 23 (.tmp 13) (.tmp 42) rfl O 0 p13 rfl (Lib.byteCells BB) ZH _ rfl rfl (by rw [Lib.byteCells_length, LB.out]; rfl) (oneCell_bytes _) (sizeH _ (by rw [Lib.byteCells_length, LB.out])) rfl ?_; clear O; intro w O; simp only [List.set_cons_zero] at O) | ((with_reducible refine @wpList_at _ _ _ _ _ _ _ (.load 23 (.tmp 13)) rfl ?_); refine @wpList_own_whole _ _ _ _ _ _ _ _ _ 23 (.tmp 13) rfl O 0 p13 rfl (Lib.byteCells BB) _ rfl _ Tryz.underlying23 rfl (sizeH _ (by rw [Lib.byteCells_length, LB.out])) rfl ?_) | ((with_reducible refine @wpList_at _ _ _ _ _ _ _ (.build 54 #[(0, .const (.string { data := #[97] })), (1, .tmp 45), (3, .const (.int .i64 2)), (4, .tmp 46)]) rfl ?_); refine wpList_build_eq rfl 54 _ rfl [(0, .string ⟨#[97]⟩), (1, .int .i64 h), (3, .int .i64 2), (4, .agg (Lib.byteCells BB).toArray)] (by kernel_rfl) _ bV.out ?_))
  refine (CV.out _).mono ?_
  rintro e w ⟨rfl, g⟩
  replace O := O.call g
  clear g
  go_wp2_with (first | ((with_reducible refine @wpList_at _ _ _ _ _ _ _ (.alloc 54) rfl ?_); refine @wpList_own_alloc _ _ _ _ _ _ _ _ _ 54 rfl ZVote ZVote_info O rfl ?_; clear O; intro b15 w O) | ((with_reducible refine @wpList_at _ _ _ _ _ _ _ (.store 54 (.tmp 15) (.tmp 49)) rfl ?_); refine @wpList_own_store _ _ _ _ _ _ _ _ _ 54 (.tmp 15) (.tmp 49) rfl O 0 b15 rfl VB.cells ZVote _ rfl rfl VS.out V1.out (sizeVote _ VS.out) rfl ?_; clear O; intro w O; simp only [List.set_cons_zero] at O) | ((with_reducible refine @wpList_at _ _ _ _ _ _ _ (.load 23 (.tmp 13)) rfl ?_); refine @wpList_own_whole _ _ _ _ _ _ _ _ _ 23 (.tmp 13) rfl O 1 p13 rfl (Lib.byteCells BB) _ rfl _ Tryz.underlying23 rfl (sizeH _ (by rw [Lib.byteCells_length, LB.out])) rfl ?_) | ((with_reducible refine @wpList_at _ _ _ _ _ _ _ (.load 49 (.tmp 54)) rfl ?_); refine @wpList_own_part _ _ _ _ _ _ _ _ _ 49 (.tmp 54) rfl O 0 b15 37 rfl _ _ rfl [.int .u64 RI, .int .u64 SI] _ (fun h => VG.out _ _ h) Tryz.underlying49 rfl sizeSigI rfl ?_) | ((with_reducible refine @wpList_at _ _ _ _ _ _ _ (.build 51 #[(0, .tmp 53), (1, .tmp 55)]) rfl ?_); refine wpList_build_eq rfl 51 _ rfl [(0, .int .u64 K), (1, .agg #[.int .u64 RI, .int .u64 SI])] (by kernel_rfl) _ (bSealG K RI SI) ?_) | ((with_reducible refine @wpList_at _ _ _ _ _ _ _ (.buildSlice 26 1 #[(0, .tmp 56)]) rfl ?_); refine wpList_own_one rfl 26 (.tmp 56) rfl (⟨K, RI, SI⟩ : SealD).cells rfl 51 _ 3 Tryz.underlying26 seal_z rfl (by decide) O ?_; clear O; intro gs w O) | ((with_reducible refine @wpList_at _ _ _ _ _ _ _ (.build 28 #[(0, .tmp 51), (2, .tmp 52), (3, .tmp 57)]) rfl ?_); refine wpList_build_eq rfl 28 _ rfl [(0, .int .i64 h), (2, .agg (Lib.byteCells BB).toArray), (3, .slice (some ⟨gs, 0, none⟩) 1 1)] (by kernel_rfl) _ (bCommitG h BB LB.out (some ⟨gs, 0, none⟩) 1 1) ?_) | ((with_reducible refine @wpList_at _ _ _ _ _ _ _ (.store 28 (.tmp 59) (.tmp 58)) rfl ?_); refine @wpList_own_store_part _ _ _ _ _ _ _ _ _ 28 (.tmp 59) (.tmp 58) rfl O 3 b12 163 rfl (commitV h 0 BB (.slice (some ⟨gs, 0, none⟩) 1 1)) _ _ rfl rfl (by rw [commitV_len _ _ _ _ LB.out, LtR.cells_length _ (lt_wf HDW.out rfl (by decide) (by decide) (by decide))]; decide) (commitV_one _ _ _ _ rfl) (by rw [commitV_len _ _ _ _ LB.out]; exact sizeCommit) rfl ?_; clear O; intro w O; simp only [List.set_cons_zero, List.set_cons_succ] at O; rw [PC.out 0 0 h 0 z32 BB rfl LB.out none (some ⟨gv, 0, none⟩) (some ⟨gv, 0, none⟩) (some ⟨gs, 0, none⟩) 0 0 1 1 1 1 1 1] at O) | ((with_reducible refine @wpList_at _ _ _ _ _ _ _ (.load 31 (.tmp 12)) rfl ?_); refine @wpList_own_whole _ _ _ _ _ _ _ _ _ 31 (.tmp 12) rfl O 3 b12 rfl (⟨HH, h, 0, BB, some ⟨gs, 0, none⟩, 1, 1, some ⟨gv, 0, none⟩, 1, 1, some ⟨gv, 0, none⟩, 1, 1⟩ : LtR).cells _ rfl _ Tryz.underlying31 rfl (sizeLt _ (lt_wf HDW.out LB.out (by decide) (by decide) (by decide))) rfl ?_) | ((with_reducible refine @wpList_at _ _ _ _ _ _ _ (.store 31 (.tmp 6) (.tmp 60)) rfl ?_); refine @wpList_own_store _ _ _ _ _ _ _ _ _ 31 (.tmp 6) (.tmp 60) rfl O 6 b6 rfl (⟨HH, h, 0, BB, some ⟨gs, 0, none⟩, 1, 1, some ⟨gv, 0, none⟩, 1, 1, some ⟨gv, 0, none⟩, 1, 1⟩ : LtR).cells ZLt0 _ rfl rfl (LtR.cells_length _ (lt_wf HDW.out LB.out (by decide) (by decide) (by decide))) (LtR_one _) (sizeLt _ (lt_wf HDW.out LB.out (by decide) (by decide) (by decide))) rfl ?_; clear O; intro w O; simp only [List.set_cons_zero, List.set_cons_succ] at O))
  refine bodyPost_ret (results_cell_one rfl _ _ ⟨b6, 0, none⟩ _ rfl (run_loadVar_part _ _ _ 31 (⟨HH, h, 0, BB, some ⟨gs, 0, none⟩, 1, 1, some ⟨gv, 0, none⟩, 1, 1, some ⟨gv, 0, none⟩, 1, 1⟩ : LtR).cells _ (O.at_ 6 rfl).row Tryz.underlying31 rfl (sizeLt _ (lt_wf HDW.out LB.out (by decide) (by decide) (by decide))))) rfl ⟨(⟨HH, h, 0, BB, some ⟨gs, 0, none⟩, 1, 1, some ⟨gv, 0, none⟩, 1, 1, some ⟨gv, 0, none⟩, 1, 1⟩ : LtR), rfl, ⟨rfl, rfl, rfl, rfl, rds_blk (O.at_ 0 rfl) rfl 1 (Nat.le_refl _) (by unfold maxLen; omega), rds_blk (O.at_ 5 rfl) rfl 1 (Nat.le_refl _) (by unfold maxLen; omega), rds_blk (O.at_ 5 rfl) rfl 1 (Nat.le_refl _) (by unfold maxLen; omega)⟩, O.grown⟩

section
variable {P : Program} {ops : Array Oper} {rest : List Oper} {o : Oper} {a : Act} {w0 w : World} {Q : Exit → Act → World → Prop} {L : List (Nat × List Value × TypeId)}
/-- a struct or an array, out of a block that was there before -/
theorem wpList_old_part (ty : TypeId) (x : Operand) (ho : o.op = .load ty x) (g k : Nat) (hx : a.eval x = .pointer (some ⟨g, k, none⟩)) (vs : List Value) (d : TypeDesc) (hr : RowAt w0 g k vs) (O : Own w0 w L)
    (hu : P.underlying ty = some d) (hd : (match d with | .struct _ | .array _ _ => true | _ => false) = true) (hi : (P.info? ty).map (·.size) = some vs.length)
    (hgd : Region.wanted o (yielded ops a.tmps) = true) (h : wpList P ops Q rest (a.put o.dst (.agg vs.toArray)) w) : wpList P ops Q (o :: rest) a w :=
  wpList_load_part hgd ty x ho g k hx vs d (hr.grown O.grown (by simp)) hu hd hi h
end
def ZOpt : List Value := [.float .f64 0, .float .f64 0, .float .f64 0]
theorem ZOpt_info : (Tryz.prog.info? 35).map (fun i => i.zero.map (fun v => v.cells)) = some (some ZOpt.toArray) := by kernel_rfl
theorem bOpt15 : Tryz.prog.built 35 [(0, .float .f64 4602678819172646912), (1, .float .f64 4636737291354636288), (2, .float .f64 4607182418800017408)] = some opt15.cells.toArray := by kernel_rfl
theorem opt_one {o : OptD} : ∀ v ∈ o.cells, v.oneCell' = true := by
  intro v hv
  unfold OptD.cells at hv
  simp only [List.mem_cons, List.not_mem_nil, or_false] at hv
  rcases hv with rfl | rfl | rfl <;> rfl
theorem opt15_wf : opt15.wf := ⟨by decide, by decide, by decide⟩
theorem a15_wf : a15.wf := one_wf (by unfold i64R; decide) (by unfold i64R; decide) rfl
theorem b15_wf : b15.wf := one_wf (by unfold i64R; decide) (by unfold i64R; decide) (hdrHash_len _)
set_option maxHeartbeats 4000000 in
theorem alive15_ok (w0 : World) (hR : RowAt w0 1 0 (wCells rootsL)) : Calls Tryz.prog 16 #[] w0 fun e w' => e = .returned (.bool true) ∧ w0.grownBy w' none := by
  have C1 := Lib.hid (fun w => one_ok 1 10 z32 w (by decide) (by unfold i64R; decide) rfl)
  have C2 := Lib.hid (fun w => one_ok 2 20 (hdrHash (hdr5 1 10 z32)) w (by decide) (by unfold i64R; decide) (hdrHash_len _))
  have HR := Lib.hid hR
  clear hR
  go_enter Tryz.func16, Tryz.ntmps16
  go_wp2_with (first | ((with_reducible refine @wpList_at _ _ _ _ _ _ _ (.build 23 #[]) rfl ?_); refine wpList_build_eq rfl 23 _ rfl [] (by kernel_rfl) _ bHash0 ?_))
  refine (C1.out _).mono ?_
  rintro e w1 ⟨xa, rfl, ha, g1⟩
  have HA := Lib.hid (show xa.of w1.heap.size w1 a15 from ha)
  have XA := Lib.hid (ha.wf a15_wf); have G1 := Lib.hid g1
  have KA := Lib.hid (show ∀ (w : World) (g : Nat), RowAt w g 0 xa.cells → RowAt w g 165 (Lib.byteCells (hdrHash (hdr5 1 10 z32))) from fun _ _ h => by have := LtR.cblk_at h XA.out; rwa [HA.out.block] at this)
  have LK := Lib.hid (hdrHash_len (hdr5 1 10 z32))
  clear ha g1
  have O := Own.start w1
  go_wp2_with (first | ((with_reducible refine @wpList_at _ _ _ _ _ _ _ (.alloc 31) rfl ?_); refine @wpList_own_alloc _ _ _ _ _ _ _ _ _ 31 rfl ZLt0 ZLt0_info O rfl ?_; clear O; intro ba w O) | ((with_reducible refine @wpList_at _ _ _ _ _ _ _ (.store 31 (.tmp 1) (.tmp 5)) rfl ?_); refine @wpList_own_store _ _ _ _ _ _ _ _ _ 31 (.tmp 1) (.tmp 5) rfl O 0 ba rfl xa.cells ZLt0 _ rfl rfl (LtR.cells_length _ XA.out) (LtR_one _) (sizeLt _ XA.out) rfl ?_; clear O; intro w O; simp only [List.set_cons_zero] at O) | ((with_reducible refine @wpList_at _ _ _ _ _ _ _ (.load 23 (.tmp 7)) rfl ?_); refine @wpList_own_part _ _ _ _ _ _ _ _ _ 23 (.tmp 7) rfl O 0 ba 165 rfl _ _ rfl (Lib.byteCells (hdrHash (hdr5 1 10 z32))) _ (fun h => KA.out _ _ h) Tryz.underlying23 rfl (sizeH _ (by rw [Lib.byteCells_length, LK.out])) rfl ?_))
  refine (C2.out _).mono ?_
  rintro e w3 ⟨xb, rfl, hb, g3⟩
  have HB := Lib.hid (show xb.of w3.heap.size w3 b15 from hb)
  have XB := Lib.hid (hb.wf b15_wf)
  replace O := O.call g3
  have RA := Lib.hid (O.at_ 0 rfl).row
  have G3 := Lib.hid (Lib.grownBy_trans G1.out O.grown)
  have HA3 := Lib.hid (HA.out.up O.grown (Nat.le_refl _))
  clear hb g3 O
  have O := Own.start w3
  have CS := fun w (g : w3.grownBy w none) => vSound_ok ⟨#[97]⟩ xa a15 w a15_wf (HA3.out.up g (Nat.le_refl _)) (by decide) (by decide) (HR.out.grown (Lib.grownBy_trans G3.out g) (by simp))
  have CP := fun w (g : w3.grownBy w none) => Step_ok xa xb a15 b15 4627730092099895296 opt15 w a15_wf b15_wf (HA3.out.up g (Nat.le_refl _)) (HB.out.up g (Nat.le_refl _)) (by decide) opt15_wf (by decide) (by decide) (HR.out.grown (Lib.grownBy_trans G3.out g) (by simp))
  have CL := fun w (g : w3.grownBy w none) => Step_ok xa xb a15 b15 4637440978796412928 opt15 w a15_wf b15_wf (HA3.out.up g (Nat.le_refl _)) (HB.out.up g (Nat.le_refl _)) (by decide) opt15_wf (by decide) (by decide) (HR.out.grown (Lib.grownBy_trans G3.out g) (by simp))
  rw [a15_sound] at CS; rw [step15] at CP; rw [late15] at CL
  replace CS := Lib.hid CS; replace CP := Lib.hid CP; replace CL := Lib.hid CL
  go_wp2_with (first | ((with_reducible refine @wpList_at _ _ _ _ _ _ _ (.alloc 31) rfl ?_); refine @wpList_own_alloc _ _ _ _ _ _ _ _ _ 31 rfl ZLt0 ZLt0_info O rfl ?_; clear O; intro bb w O) | ((with_reducible refine @wpList_at _ _ _ _ _ _ _ (.store 31 (.tmp 2) (.tmp 9)) rfl ?_); refine @wpList_own_store _ _ _ _ _ _ _ _ _ 31 (.tmp 2) (.tmp 9) rfl O 0 bb rfl xb.cells ZLt0 _ rfl rfl (LtR.cells_length _ XB.out) (LtR_one _) (sizeLt _ XB.out) rfl ?_; clear O; intro w O; simp only [List.set_cons_zero] at O) | ((with_reducible refine @wpList_at _ _ _ _ _ _ _ (.build 35 #[(0, .const (.float .f64 4602678819172646912)), (1, .const (.float .f64 4636737291354636288)), (2, .const (.float .f64 4607182418800017408))]) rfl ?_); refine wpList_build_eq rfl 35 _ rfl [(0, .float .f64 4602678819172646912), (1, .float .f64 4636737291354636288), (2, .float .f64 4607182418800017408)] (by kernel_rfl) _ bOpt15 ?_) | ((with_reducible refine @wpList_at _ _ _ _ _ _ _ (.alloc 35) rfl ?_); refine @wpList_own_alloc _ _ _ _ _ _ _ _ _ 35 rfl ZOpt ZOpt_info O rfl ?_; clear O; intro bo w O) | ((with_reducible refine @wpList_at _ _ _ _ _ _ _ (.store 35 (.tmp 3) (.tmp 10)) rfl ?_); refine @wpList_own_store _ _ _ _ _ _ _ _ _ 35 (.tmp 3) (.tmp 10) rfl O 0 bo rfl opt15.cells ZOpt _ rfl rfl rfl opt_one sizeOpt rfl ?_; clear O; intro w O; simp only [List.set_cons_zero] at O) | ((with_reducible refine @wpList_at _ _ _ _ _ _ _ (.load 31 (.tmp 1)) rfl ?_); refine @wpList_old_part _ _ _ _ _ _ _ _ _ 31 (.tmp 1) rfl ba 0 rfl xa.cells _ RA.out O Tryz.underlying31 rfl (sizeLt _ XA.out) rfl ?_))
  refine (CS.out _ O.grown).mono ?_
  rintro e w ⟨rfl, g⟩
  replace O := O.call g
  clear g
  go_wp2_with (first | ((with_reducible refine @wpList_at _ _ _ _ _ _ _ (.load 31 (.tmp 1)) rfl ?_); refine @wpList_old_part _ _ _ _ _ _ _ _ _ 31 (.tmp 1) rfl ba 0 rfl xa.cells _ RA.out O Tryz.underlying31 rfl (sizeLt _ XA.out) rfl ?_) | ((with_reducible refine @wpList_at _ _ _ _ _ _ _ (.load 31 (.tmp 2)) rfl ?_); refine @wpList_own_whole _ _ _ _ _ _ _ _ _ 31 (.tmp 2) rfl O 1 bb rfl xb.cells _ rfl _ Tryz.underlying31 rfl (sizeLt _ XB.out) rfl ?_) | ((with_reducible refine @wpList_at _ _ _ _ _ _ _ (.load 35 (.tmp 3)) rfl ?_); refine @wpList_own_whole _ _ _ _ _ _ _ _ _ 35 (.tmp 3) rfl O 0 bo rfl opt15.cells _ rfl _ Tryz.underlying35 rfl sizeOpt rfl ?_))
  refine (CP.out _ O.grown).mono ?_
  rintro e w ⟨rfl, g⟩
  replace O := O.call g
  clear g
  go_wp2_with (first | ((with_reducible refine @wpList_at _ _ _ _ _ _ _ (.load 31 (.tmp 1)) rfl ?_); refine @wpList_old_part _ _ _ _ _ _ _ _ _ 31 (.tmp 1) rfl ba 0 rfl xa.cells _ RA.out O Tryz.underlying31 rfl (sizeLt _ XA.out) rfl ?_) | ((with_reducible refine @wpList_at _ _ _ _ _ _ _ (.load 31 (.tmp 2)) rfl ?_); refine @wpList_own_whole _ _ _ _ _ _ _ _ _ 31 (.tmp 2) rfl O 1 bb rfl xb.cells _ rfl _ Tryz.underlying31 rfl (sizeLt _ XB.out) rfl ?_) | ((with_reducible refine @wpList_at _ _ _ _ _ _ _ (.load 35 (.tmp 3)) rfl ?_); refine @wpList_own_whole _ _ _ _ _ _ _ _ _ 35 (.tmp 3) rfl O 0 bo rfl opt15.cells _ rfl _ Tryz.underlying35 rfl sizeOpt rfl ?_))
  refine (CL.out _ O.grown).mono ?_
  rintro e w ⟨rfl, g⟩
  replace O := O.call g
  clear g
  go_wp2_with fail
  go_ret
  exact ⟨rfl, Lib.grownBy_trans G3.out O.grown⟩

end Go.Proofs.YtdhchehagfmjcaaGreatDoor
