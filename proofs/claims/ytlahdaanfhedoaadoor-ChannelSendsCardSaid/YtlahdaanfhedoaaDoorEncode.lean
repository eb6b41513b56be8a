/- Walks: forms.many, putSet. Walks: forms.checkCommit, putCommit, putHeader. Walks: forms.putHeader. Walks: forms.EncodeHeader, EncodeSet, EncodeCommit, EncodeLight. Walks: forms.EncodeLight, EncodeCommit. -/
import Derived.Test.YtlahdaanfhedoaaDoorSlc
import Derived.Test.YtlahdaanfhedoaaDoorPlain6
import Derived.Test.YtlahdaanfhedoaaDoorBuild
namespace Go.Proofs.YtlahdaanfhedoaaDoor
open Go.RowKit
set_option maxRecDepth 100000

def ZVal : List Value := [.int .u64 0, .int .i64 0]
theorem ValD_one (v : ValD) : ∀ x ∈ v.cells, x.oneCell' = true := by simp [ValD.cells, Value.oneCell']
def ZSeal : List Value := [.int .u64 0, .int .u64 0, .int .u64 0]
theorem SealD_one (v : SealD) : ∀ x ∈ v.cells, x.oneCell' = true := by simp [SealD.cells, Value.oneCell']

theorem St.put {b L L' : Nat} {w1 w : World} {bs bs' : List UInt8} (h : St b w1 bs L w) (hb : bs = bs') (hL : L ≤ L') : St b w1 bs' L' w := ⟨hb ▸ h.isW, h.bel, by rw [← hb]; exact Nat.le_trans h.len hL⟩
theorem encVals_take (ds : List ValD) (k : Nat) (h : k < ds.length) : encVals (ds.take (k + 1)) = encVals (ds.take k) ++ be64 ds[k].key ++ be64 ds[k].power := by
  rw [List.take_succ_eq_append_getElem h, encVals_snoc, List.append_assoc]; rfl
theorem St.grown {b L : Nat} {w1 w w' : World} {bs : List UInt8} (h : St b w1 bs L w) (hg : w.grownBy w' none) : St b w1 bs L w' := h.over ⟨hg.os, hg.tape, hg.output, hg.size, fun k hk => hg.block k hk (by simp)⟩
theorem WK.over {b : Nat} {u w w' : World} (h : WK b b u w) (hg : w.grownBy w' none) (hb : b ≤ w.heap.size) : Below b u w' := h.1.trans ⟨hg.os, hg.tape, hg.output, hg.size, fun k hk => hg.block k (by omega) (by simp)⟩
theorem Blk.kept {w w' : World} {m b : Nat} {cs : List Value} {T : TypeId} (h : Blk w m cs T) (hk : Lib.OthersKept 5 (some b) w w') (hT : T ≠ 5) (hm : m ≠ b) : Blk w' m cs T :=
  hk m _ h (by simp; exact hm) (by simp; exact fun e => hT e)

theorem commit_cells {B : Nat} {w : World} {c : CommitD} {cs : List Value} (h : c.rep B w cs) : cs[0]? = some (.int .i64 c.height) ∧ cs[1]? = some (.int .i64 c.round) := by
  obtain ⟨sl, _, rfl⟩ := h; exact ⟨rfl, rfl⟩
theorem commit_block {B : Nat} {w : World} {c : CommitD} {cs : List Value} (h : c.rep B w cs) (hc : c.wf) : (cs.drop 2).take 32 = Lib.byteCells c.block := by
  obtain ⟨sl, _, rfl⟩ := h
  simp [Lib.byteCells_length, hc.block]
theorem commit_seals {B : Nat} {w : World} {c : CommitD} {cs : List Value} (h : c.rep B w cs) (hc : c.wf) : ∃ sl, RdS B w sl c.seals.length 3 (sealCells c.seals) ∧ cs[34]? = some sl := by
  obtain ⟨sl, h1, rfl⟩ := h
  exact ⟨sl, h1, by simp [Lib.byteCells_length, hc.block]⟩
theorem encSeals_take (ds : List SealD) (k : Nat) (h : k < ds.length) : encSeals (ds.take (k + 1)) = encSeals (ds.take k) ++ be64 ds[k].key ++ be64 ds[k].r ++ be64 ds[k].s := by
  have e : ∀ (l : List SealD) (v : SealD), encSeals (l ++ [v]) = encSeals l ++ encSeal v := by simp [encSeals]
  rw [List.take_succ_eq_append_getElem h, e, encSeal]; simp only [List.append_assoc]

def HeaderD.hashes (d : HeaderD) : List (List UInt8) := [d.last, d.set, d.next, d.data, d.app]
theorem HeaderD.hashes_len (d : HeaderD) (h : d.wf) : ∀ x ∈ d.hashes, x.length = 32 := by
  intro x hx
  simp only [HeaderD.hashes, List.mem_cons, List.not_mem_nil, or_false] at hx
  rcases hx with rfl | rfl | rfl | rfl | rfl
  · exact h.last
  · exact h.set
  · exact h.next
  · exact h.data
  · exact h.app
theorem hash_info : (Tryd.prog.info? 33).map (fun i => (i.zero, i.size)) = some (some (.agg (Array.replicate 32 (.int .u8 0))), 32) := by kernel_rfl
theorem take_hash (hs : List (List UInt8)) (k : Nat) (h : k < hs.length) : (hs.take (k + 1)).flatten = (hs.take k).flatten ++ hs[k] := by
  rw [List.take_succ_eq_append_getElem h, List.flatten_append]; simp
theorem encHeader_eq (d : HeaderD) : encHeader d = be64 2 ++ textL d.chain ++ be64 d.height ++ be64 d.time ++ d.hashes.flatten := by simp [encHeader, HeaderD.hashes]

def hdrVs (d : HeaderD) : List Value := [hashV d.last, hashV d.set, hashV d.next, hashV d.data, hashV d.app]
theorem hdrVs_n (d : HeaderD) : (hdrVs d).length * 32 ≤ 16777216 := by simp [hdrVs]
theorem hdrVs_flat (d : HeaderD) : flatCells (hdrVs d) = d.hashes.flatMap Lib.byteCells := by simp [flatCells, hdrVs, hashV, HeaderD.hashes, Value.cells]
theorem hdrVs_size (d : HeaderD) (h5 : ∀ x ∈ d.hashes, x.length = 32) : ∀ v ∈ hdrVs d, v.cells.size = 32 := by
  intro v hv
  simp only [hdrVs, List.mem_cons, List.not_mem_nil, or_false] at hv
  simp only [HeaderD.hashes, List.mem_cons, List.not_mem_nil, or_false, forall_eq_or_imp, forall_eq] at h5
  rcases hv with rfl | rfl | rfl | rfl | rfl <;> simp [hashV, Value.cells, Lib.byteCells_length, h5]

def okSet (l : List ValD) : Bool := decide (l.length ≤ 64)
def okCommitN (c : CommitD) : Bool := okCommit c && decide (c.seals.length ≤ 64)
def okLight (l : LightD) : Bool := okHeader l.header && (okCommitN l.commit && (okSet l.set && okSet l.next))
def encLight (l : LightD) : List UInt8 := be64 5 ++ encHeader l.header ++ encCommit l.commit ++ encSet l.set ++ encSet l.next
/-- what an encoding answers -/
def Enc (ok : Bool) (l : List UInt8) (w : World) (e : Ending) (w' : World) : Prop := if ok then Gives l w e w' else Fails w e w'
theorem Enc.y {ok : Bool} {l : List UInt8} {w w' : World} {e : Ending} (h : ok = true) (hg : Gives l w e w') : Enc ok l w e w' := by unfold Enc; rw [if_pos h]; exact hg
theorem Enc.n {ok : Bool} {l : List UInt8} {w w' : World} {e : Ending} (h : ok = false) (hg : Fails w e w') : Enc ok l w e w' := by unfold Enc; rw [h]; exact hg

theorem encHeader_pos (d : HeaderD) : 0 < (encHeader d).length := by simp [encHeader, be64_length]; omega
theorem encHeader_len (d : HeaderD) (hv : d.wf) (h : okHeader d = true) : (encHeader d).length ≤ 1000 := by
  have := okHeader_len h
  simp [encHeader, be64_length, textL_length, hv.last, hv.set, hv.next, hv.data, hv.app]; omega
theorem encSet_pos (d : List ValD) : 0 < (encSet d).length := by rw [encSet_length]; omega
theorem encCommit_length (c : CommitD) (hc : c.wf) : (encCommit c).length = 64 + 24 * c.seals.length := by simp [encCommit, be64_length, encSeals_length, hc.block]; omega

/-- one cell, below block B0: it stays -/
theorem RowAt.box1 {w W : World} {x : Value} {T : TypeId} (h : w.alloc (.cells #[x] T) = W) : RowAt W w.heap.size 0 [x] := h ▸ RowAt_box w [x] T

theorem LightD.parts {B : Nat} {w : World} {l : LightD} {cs : List Value} (h : l.rep B w cs) (hl : l.wf) : cs.take 163 = l.header.cells ∧ (∃ cc, l.commit.rep B w cc ∧ (cs.drop 163).take 35 = cc) ∧
    (∃ sv, RdS B w sv l.set.length 2 (setCells l.set) ∧ cs[198]? = some sv) ∧ (∃ nv, RdS B w nv l.next.length 2 (setCells l.next) ∧ cs[199]? = some nv) := by
  obtain ⟨cc, sv, nv, h1, h2, h3, rfl⟩ := h
  have e1 := l.header.cells_length hl.header
  have e2 := h1.length hl.commit
  refine ⟨?_, ⟨cc, h1, ?_⟩, ⟨sv, h2, ?_⟩, ⟨nv, h3, ?_⟩⟩
  · rw [List.append_assoc, List.take_left' e1]
  · rw [List.append_assoc, List.drop_left' e1, List.take_left' e2]
  · rw [List.getElem?_append_right (by simp [e1, e2])]; simp [e1, e2]
  · rw [List.getElem?_append_right (by simp [e1, e2])]; simp [e1, e2]

theorem okLight_open {l : LightD} (h : okLight l = true) : okHeader l.header = true ∧ okCommit l.commit = true ∧ l.commit.seals.length ≤ 64 ∧ l.set.length ≤ 64 ∧ l.next.length ≤ 64 := by
  simp only [okLight, okCommitN, okSet, Bool.and_eq_true, decide_eq_true_eq] at h
  exact ⟨h.1, h.2.1.1, h.2.1.2, h.2.2.1, h.2.2.2⟩
theorem encLight_pos (l : LightD) : 0 < (encLight l).length := by simp [encLight, be64_length]; omega
theorem encLight_len (l : LightD) (hl : l.wf) (h : okLight l = true) : (encLight l).length ≤ 10000 := by
  obtain ⟨h1, h2, h3, h4, h5⟩ := okLight_open h
  have := encHeader_len _ hl.header h1
  have := encCommit_length _ hl.commit
  have := encSet_length l.set
  have := encSet_length l.next
  simp only [encLight, List.length_append, be64_length]; omega

end Go.Proofs.YtlahdaanfhedoaaDoor
