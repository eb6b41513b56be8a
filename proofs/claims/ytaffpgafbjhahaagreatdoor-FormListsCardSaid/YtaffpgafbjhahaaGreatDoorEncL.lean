/- Walks: forms.many, putSet. Walks: forms.checkCommit, putCommit, putHeader. Walks: forms.putHeader. -/
import Derived.Test.YtaffpgafbjhahaaGreatDoorSlc
import Derived.Test.YtaffpgafbjhahaaGreatDoorAlive6
import Derived.Test.YtaffpgafbjhahaaGreatDoorBuild
namespace Go.Proofs.YtaffpgafbjhahaaGreatDoor
open Go.RowKit
set_option maxRecDepth 100000

def ZVal : List Value := [.int .u64 0, .int .i64 0]
theorem ZVal_info : (Tryz.prog.info? 78).map (fun i => i.zero.map (fun v => v.cells)) = some (some ZVal.toArray) := by kernel_rfl
theorem sizeVal : (Tryz.prog.info? 78).map (·.size) = some 2 := by kernel_rfl
theorem ValD_one (v : ValD) : ∀ x ∈ v.cells, x.oneCell' = true := by simp [ValD.cells, Value.oneCell']
def ZSeal : List Value := [.int .u64 0, .int .u64 0, .int .u64 0]
theorem ZSeal_info : (Tryz.prog.info? 82).map (fun i => i.zero.map (fun v => v.cells)) = some (some ZSeal.toArray) := by kernel_rfl
theorem sizeSeal : (Tryz.prog.info? 82).map (·.size) = some 3 := by kernel_rfl
theorem SealD_one (v : SealD) : ∀ x ∈ v.cells, x.oneCell' = true := by simp [SealD.cells, Value.oneCell']

theorem St.put {b L L' : Nat} {w1 w : World} {bs bs' : List UInt8} (h : St b w1 bs L w) (hb : bs = bs') (hL : L ≤ L') : St b w1 bs' L' w := ⟨hb ▸ h.isW, h.bel, by rw [← hb]; exact Nat.le_trans h.len hL⟩
theorem encVals_take (ds : List ValD) (k : Nat) (h : k < ds.length) : encVals (ds.take (k + 1)) = encVals (ds.take k) ++ be64 ds[k].key ++ be64 ds[k].power := by
  rw [List.take_succ_eq_append_getElem h, encVals_snoc, List.append_assoc]; rfl
theorem St.grown {b L : Nat} {w1 w w' : World} {bs : List UInt8} (h : St b w1 bs L w) (hg : w.grownBy w' none) : St b w1 bs L w' := h.over ⟨hg.os, hg.tape, hg.output, hg.size, fun k hk => hg.block k hk (by simp)⟩
theorem WK.over {b : Nat} {u w w' : World} (h : WK b b u w) (hg : w.grownBy w' none) (hb : b ≤ w.heap.size) : Below b u w' := h.1.trans ⟨hg.os, hg.tape, hg.output, hg.size, fun k hk => hg.block k (by omega) (by simp)⟩
theorem Blk.kept {w w' : World} {m b : Nat} {cs : List Value} {T : TypeId} (h : Blk w m cs T) (hk : Lib.OthersKept 5 (some b) w w') (hT : T ≠ 5) (hm : m ≠ b) : Blk w' m cs T :=
  hk m _ h (by simp; exact hm) (by simp; exact fun e => hT e)

theorem commit_cells {B : Nat} {w : World} {c : CommitD} {cs : List Value} (h : c.rep B w cs) : cs[0]? = some (.int .i64 c.height) ∧ cs[1]? = some (.int .i64 c.round) := by
  obtain ⟨sl, _, rfl⟩ := h; exact ⟨rfl, rfl⟩
theorem commit_block {B : Nat} {w : World} {c : CommitD} {cs : List Value} (h : c.rep B w cs) (hc : c.wf) : (cs.drop 2).take 32 = Lib.byteCells c.block := by
  obtain ⟨sl, _, rfl⟩ := h
  simp [List.take_append, Lib.byteCells_length, hc.block, List.take_of_length_le]
theorem commit_seals {B : Nat} {w : World} {c : CommitD} {cs : List Value} (h : c.rep B w cs) (hc : c.wf) : ∃ sl, RdS B w sl c.seals.length 3 (sealCells c.seals) ∧ cs[34]? = some sl := by
  obtain ⟨sl, h1, rfl⟩ := h
  exact ⟨sl, h1, by simp [List.getElem?_append, Lib.byteCells_length, hc.block]⟩
theorem sizeCommit : (Tryz.prog.info? 32).map (·.size) = some 35 := by kernel_rfl
theorem sizeHdr : (Tryz.prog.info? 36).map (·.size) = some 163 := by kernel_rfl

set_option maxHeartbeats 400000 in
theorem checkCommit_any (c : CommitD) (cs : List Value) (w : World) (h0 : cs[0]? = some (.int .i64 c.height)) (h1 : cs[1]? = some (.int .i64 c.round)) :
    Calls Tryz.prog 24 #[.agg cs.toArray] w (RetB (okCommit c) w) := by
  obtain ⟨W, hW, hblk, hrow, hf, hb, hsz⟩ := box_as w cs 32
  have c0 := hrow 0 _ h0; rw [Nat.zero_add] at c0
  have c1 := hrow 1 _ h1; rw [Nat.zero_add] at c1
  have HW := Lib.hid hW; have HB := Lib.hid hb
  clear hW hblk hrow hf hb hsz h0 h1
  go_enter Tryz.func24, Tryz.ntmps24
  go_upto_region 1 with (fail)
  rw [HW.out]
  go_wp2_with fail
  cases h1 : inR c.height 1 1099511627776
  · refine (within_f _ _ _ _ h1).mono ?_
    rintro e w' ⟨rfl, rfl⟩
    exact ⟨rfl, RetB.no (by simp only [okCommit, h1, Bool.false_and]) HB.out⟩
  refine (within_t _ _ _ _ h1).mono ?_
  rintro e w' ⟨rfl, rfl⟩
  have H1 := Lib.hid h1; clear h1
  go_wp2_with fail
  cases h2 : inR c.round 0 1048576
  · refine (within_f _ _ _ _ h2).mono ?_
    rintro e w' ⟨rfl, rfl⟩
    exact ⟨rfl, RetB.no (by simp only [okCommit, h2, Bool.and_false]) HB.out⟩
  refine (within_t _ _ _ _ h2).mono ?_
  rintro e w' ⟨rfl, rfl⟩
  have H2 := Lib.hid h2; clear h2
  go_wp2_with fail
  go_end0
  exact RetB.yes (by simp only [okCommit, H1.out, H2.out, Bool.and_self]) HB.out
theorem checkCommit_t (c : CommitD) (cs : List Value) (w : World) (h0 : cs[0]? = some (.int .i64 c.height)) (h1 : cs[1]? = some (.int .i64 c.round)) (h : okCommit c = true) : Calls Tryz.prog 24 #[.agg cs.toArray] w fun e w' => e = .returned (.tuple #[]) ∧ Below w.heap.size w w' :=
  (checkCommit_any c cs w h0 h1).mono fun e w' hp => by unfold RetB at hp; rw [h] at hp; exact hp
theorem checkCommit_f (c : CommitD) (cs : List Value) (w : World) (h0 : cs[0]? = some (.int .i64 c.height)) (h1 : cs[1]? = some (.int .i64 c.round)) (h : okCommit c = false) : Calls Tryz.prog 24 #[.agg cs.toArray] w fun e w' => e = .panicked wrongP ∧ Below w.heap.size w w' :=
  (checkCommit_any c cs w h0 h1).mono fun e w' hp => by unfold RetB at hp; rw [h] at hp; exact hp

theorem encSeals_take (ds : List SealD) (k : Nat) (h : k < ds.length) : encSeals (ds.take (k + 1)) = encSeals (ds.take k) ++ be64 ds[k].key ++ be64 ds[k].r ++ be64 ds[k].s := by
  have e : ∀ (l : List SealD) (v : SealD), encSeals (l ++ [v]) = encSeals l ++ encSeal v := by simp [encSeals]
  rw [List.take_succ_eq_append_getElem h, e, encSeal]; simp only [List.append_assoc]

def HeaderD.hashes (d : HeaderD) : List (List UInt8) := [d.last, d.set, d.next, d.data, d.app]
theorem HeaderD.hashes_len (d : HeaderD) (h : d.wf) : ∀ x ∈ d.hashes, x.length = 32 := by
  intro x hx
  simp only [HeaderD.hashes, List.mem_cons, List.not_mem_nil, or_false] at hx
  rcases hx with rfl | rfl | rfl | rfl | rfl
  · exact h.last
  · exact h.set
  · exact h.next
  · exact h.data
  · exact h.app
theorem hash_info : (Tryz.prog.info? 29).map (fun i => (i.zero, i.size)) = some (some (.agg (Array.replicate 32 (.int .u8 0))), 32) := by kernel_rfl
theorem take_hash (hs : List (List UInt8)) (k : Nat) (h : k < hs.length) : (hs.take (k + 1)).flatten = (hs.take k).flatten ++ hs[k] := by
  rw [List.take_succ_eq_append_getElem h, List.flatten_append]; simp
theorem encHeader_eq (d : HeaderD) : encHeader d = be64 2 ++ textL d.chain ++ be64 d.height ++ be64 d.time ++ d.hashes.flatten := by simp [encHeader, HeaderD.hashes]

def hdrVs (d : HeaderD) : List Value := [hashV d.last, hashV d.set, hashV d.next, hashV d.data, hashV d.app]
theorem hdrVs_n (d : HeaderD) : (hdrVs d).length * 32 ≤ 16777216 := by simp [hdrVs]
theorem hdrVs_flat (d : HeaderD) : flatCells (hdrVs d) = d.hashes.flatMap Lib.byteCells := by simp [flatCells, hdrVs, hashV, HeaderD.hashes, Value.cells]
theorem hdrVs_size (d : HeaderD) (h5 : ∀ x ∈ d.hashes, x.length = 32) : ∀ v ∈ hdrVs d, v.cells.size = 32 := by
  intro v hv
  simp only [hdrVs, List.mem_cons, List.not_mem_nil, or_false] at hv
  simp only [HeaderD.hashes, List.mem_cons, List.not_mem_nil, or_false, forall_eq_or_imp, forall_eq] at h5
  rcases hv with rfl | rfl | rfl | rfl | rfl <;> simp [hashV, Value.cells, Lib.byteCells_length, h5]

end Go.Proofs.YtaffpgafbjhahaaGreatDoor
