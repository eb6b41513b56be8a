/- Walks: forms.many, putSet. Walks: forms.checkCommit, putCommit, putHeader. Walks: forms.putHeader. -/
import Derived.Test.YtfnginmoiecgnaaDoorSlc
import Derived.Test.YtfnginmoiecgnaaDoorAlive6
import Derived.Test.YtfnginmoiecgnaaDoorBuild
namespace Go.Proofs.YtfnginmoiecgnaaDoor
open Go.RowKit
set_option maxRecDepth 100000

def ZVal : List Value := [.int .u64 0, .int .i64 0]
theorem ZVal_info : (Tryd.prog.info? 76).map (fun i => i.zero.map (fun v => v.cells)) = some (some ZVal.toArray) := by kernel_rfl
theorem sizeVal : (Tryd.prog.info? 76).map (·.size) = some 2 := by kernel_rfl
theorem ValD_one (v : ValD) : ∀ x ∈ v.cells, x.oneCell' = true := by simp [ValD.cells, Value.oneCell']
def ZSeal : List Value := [.int .u64 0, .int .u64 0, .int .u64 0]
theorem ZSeal_info : (Tryd.prog.info? 63).map (fun i => i.zero.map (fun v => v.cells)) = some (some ZSeal.toArray) := by kernel_rfl
theorem sizeSeal : (Tryd.prog.info? 63).map (·.size) = some 3 := by kernel_rfl
theorem SealD_one (v : SealD) : ∀ x ∈ v.cells, x.oneCell' = true := by simp [SealD.cells, Value.oneCell']

theorem St.put {b L L' : Nat} {w1 w : World} {bs bs' : List UInt8} (h : St b w1 bs L w) (hb : bs = bs') (hL : L ≤ L') : St b w1 bs' L' w := ⟨hb ▸ h.isW, h.bel, by rw [← hb]; exact Nat.le_trans h.len hL⟩
theorem encVals_take (ds : List ValD) (k : Nat) (h : k < ds.length) : encVals (ds.take (k + 1)) = encVals (ds.take k) ++ be64 ds[k].key ++ be64 ds[k].power := by
  rw [List.take_succ_eq_append_getElem h, encVals_snoc, List.append_assoc]; rfl
theorem St.grown {b L : Nat} {w1 w w' : World} {bs : List UInt8} (h : St b w1 bs L w) (hg : w.grownBy w' none) : St b w1 bs L w' := h.over ⟨hg.os, hg.tape, hg.output, hg.size, fun k hk => hg.block k hk (by simp)⟩
theorem WK.over {b : Nat} {u w w' : World} (h : WK b b u w) (hg : w.grownBy w' none) (hb : b ≤ w.heap.size) : Below b u w' := h.1.trans ⟨hg.os, hg.tape, hg.output, hg.size, fun k hk => hg.block k (by omega) (by simp)⟩
theorem Blk.kept {w w' : World} {m b : Nat} {cs : List Value} {T : TypeId} (h : Blk w m cs T) (hk : Lib.OthersKept 5 (some b) w w') (hT : T ≠ 5) (hm : m ≠ b) : Blk w' m cs T :=
  hk m _ h (by simp; exact hm) (by simp; exact fun e => hT e)

theorem commit_cells {B : Nat} {w : World} {c : CommitD} {cs : List Value} (h : c.rep B w cs) : cs[0]? = some (.int .i64 c.height) ∧ cs[1]? = some (.int .i64 c.round) := by
  obtain ⟨sl, _, rfl⟩ := h; exact ⟨rfl, rfl⟩
theorem commit_block {B : Nat} {w : World} {c : CommitD} {cs : List Value} (h : c.rep B w cs) (hc : c.wf) : (cs.drop 2).take 32 = Lib.byteCells c.block := by
  obtain ⟨sl, _, rfl⟩ := h
  simp [Lib.byteCells_length, hc.block]
theorem commit_seals {B : Nat} {w : World} {c : CommitD} {cs : List Value} (h : c.rep B w cs) (hc : c.wf) : ∃ sl, RdS B w sl c.seals.length 3 (sealCells c.seals) ∧ cs[34]? = some sl := by
  obtain ⟨sl, h1, rfl⟩ := h
  exact ⟨sl, h1, by simp [Lib.byteCells_length, hc.block]⟩
theorem sizeCommit : (Tryd.prog.info? 54).map (·.size) = some 35 := by kernel_rfl
theorem encSeals_take (ds : List SealD) (k : Nat) (h : k < ds.length) : encSeals (ds.take (k + 1)) = encSeals (ds.take k) ++ be64 ds[k].key ++ be64 ds[k].r ++ be64 ds[k].s := by
  have e : ∀ (l : List SealD) (v : SealD), encSeals (l ++ [v]) = encSeals l ++ encSeal v := by simp [encSeals]
  rw [List.take_succ_eq_append_getElem h, e, encSeal]; simp only [List.append_assoc]

def HeaderD.hashes (d : HeaderD) : List (List UInt8) := [d.last, d.set, d.next, d.data, d.app]
theorem HeaderD.hashes_len (d : HeaderD) (h : d.wf) : ∀ x ∈ d.hashes, x.length = 32 := by
  intro x hx
  simp only [HeaderD.hashes, List.mem_cons, List.not_mem_nil, or_false] at hx
  rcases hx with rfl | rfl | rfl | rfl | rfl
  · exact h.last
  · exact h.set
  · exact h.next
  · exact h.data
  · exact h.app
theorem hash_info : (Tryd.prog.info? 25).map (fun i => (i.zero, i.size)) = some (some (.agg (Array.replicate 32 (.int .u8 0))), 32) := by kernel_rfl
theorem take_hash (hs : List (List UInt8)) (k : Nat) (h : k < hs.length) : (hs.take (k + 1)).flatten = (hs.take k).flatten ++ hs[k] := by
  rw [List.take_succ_eq_append_getElem h, List.flatten_append]; simp
theorem encHeader_eq (d : HeaderD) : encHeader d = be64 2 ++ textL d.chain ++ be64 d.height ++ be64 d.time ++ d.hashes.flatten := by simp [encHeader, HeaderD.hashes]

def hdrVs (d : HeaderD) : List Value := [hashV d.last, hashV d.set, hashV d.next, hashV d.data, hashV d.app]
theorem hdrVs_n (d : HeaderD) : (hdrVs d).length * 32 ≤ 16777216 := by simp [hdrVs]
theorem hdrVs_flat (d : HeaderD) : flatCells (hdrVs d) = d.hashes.flatMap Lib.byteCells := by simp [flatCells, hdrVs, hashV, HeaderD.hashes, Value.cells]
theorem hdrVs_size (d : HeaderD) (h5 : ∀ x ∈ d.hashes, x.length = 32) : ∀ v ∈ hdrVs d, v.cells.size = 32 := by
  intro v hv
  simp only [hdrVs, List.mem_cons, List.not_mem_nil, or_false] at hv
  simp only [HeaderD.hashes, List.mem_cons, List.not_mem_nil, or_false, forall_eq_or_imp, forall_eq] at h5
  rcases hv with rfl | rfl | rfl | rfl | rfl <;> simp [hashV, Value.cells, Lib.byteCells_length, h5]

end Go.Proofs.YtfnginmoiecgnaaDoor
