/- A light block's own cells, and what they stand for. -/
import Derived.Test.YtbhghlendbcejaaGreatDoorLts
import Derived.Test.YtbhghlendbcejaaGreatDoorSlc
import Derived.Test.YtbhghlendbcejaaGreatDoorTb
namespace Go.Proofs.YtbhghlendbcejaaGreatDoor
open Go.RowKit
set_option maxRecDepth 100000

/-- these cells stand for this light block -/
structure LtR.of (B : Nat) (w : World) (x : LtR) (l : LightD) : Prop where
  header : x.header = l.header
  height : x.height = l.commit.height
  round : x.round = l.commit.round
  block : x.block = l.commit.block
  seals : RdS B w (.slice x.sa x.sn x.sc) l.commit.seals.length 3 (sealCells l.commit.seals)
  set : RdS B w (.slice x.ta x.tn x.tc) l.set.length 2 (setCells l.set)
  next : RdS B w (.slice x.na x.nn x.nc) l.next.length 2 (setCells l.next)
def LtR.comCells (x : LtR) : List Value := x.mid ++ [.slice x.sa x.sn x.sc]
theorem rds_n {B n k : Nat} {w : World} {a : Option Addr} {m c : Nat} {cs : List Value} (h : RdS B w (.slice a m c) n k cs) : m = n ∧ m ≤ maxLen ∧ m ≤ c ∧ c ≤ maxLen := by
  obtain ⟨a', c', e, h1, h2, _⟩ := h
  injection e with e1 e2 e3
  subst e2 e3
  exact ⟨rfl, by omega, h1, h2⟩
section
variable {B B' : Nat} {w w' : World} {x : LtR} {l : LightD}
theorem LtR.of.sn (h : x.of B w l) : x.sn = l.commit.seals.length := (rds_n h.seals).1
theorem LtR.of.tn (h : x.of B w l) : x.tn = l.set.length := (rds_n h.set).1
theorem LtR.of.nn (h : x.of B w l) : x.nn = l.next.length := (rds_n h.next).1
theorem LtR.of.wf (h : x.of B w l) (hl : l.wf) : x.wf := ⟨h.header ▸ hl.header, h.block ▸ hl.commit.block, (rds_n h.seals).2.1, (rds_n h.set).2.1, (rds_n h.next).2.1⟩
theorem LtR.of.grown (h : x.of B w l) (g : w.grownBy w' none) : x.of B w' l := ⟨h.header, h.height, h.round, h.block, h.seals.grown g, h.set.grown g, h.next.grown g⟩
theorem LtR.of.mono (h : x.of B w l) (hB : B ≤ B') : x.of B' w l := ⟨h.header, h.height, h.round, h.block, h.seals.mono hB, h.set.mono hB, h.next.mono hB⟩
theorem LtR.of.up (h : x.of B w l) (g : w.grownBy w' none) (hB : B ≤ w.heap.size) : x.of w'.heap.size w' l := (h.grown g).mono (Nat.le_trans hB g.size)
theorem LtR.of.com (h : x.of B w l) : l.commit.rep B w x.comCells := ⟨_, h.seals, by unfold LtR.comCells LtR.mid; rw [h.height, h.round, h.block]⟩
theorem LtR.of.rep (h : x.of B w l) : l.rep B w x.cells := by
  refine ⟨x.comCells, _, _, h.com, h.set, h.next, ?_⟩
  unfold LtR.cells LtR.comCells
  rw [h.header]
  simp
theorem rep_lt {cs : List Value} (h : l.rep B w cs) (hl : l.wf) : ∃ x : LtR, x.wf ∧ cs = x.cells ∧ x.of B w l := by
  obtain ⟨cc, sv, nv, ⟨sl, h1, rfl⟩, h2, h3, rfl⟩ := h
  obtain ⟨sa, sc, rfl⟩ := h1.shape
  obtain ⟨ta, tc, rfl⟩ := h2.shape
  obtain ⟨na, nc, rfl⟩ := h3.shape
  have ho : (⟨l.header, l.commit.height, l.commit.round, l.commit.block, sa, l.commit.seals.length, sc, ta, l.set.length, tc, na, l.next.length, nc⟩ : LtR).of B w l := ⟨rfl, rfl, rfl, rfl, h1, h2, h3⟩
  exact ⟨_, ho.wf hl, by simp [LtR.cells, LtR.mid], ho⟩
end
section
variable {w : World} {g : Nat} {x : LtR}
theorem LtR.com_at (h : RowAt w g 0 x.cells) (hx : x.wf) : RowAt w g 163 x.comCells := by
  refine part_of (k := 163) (n := 35) h ?_
  have h1 := x.header.cells_length hx.header; have h2 := x.mid_length hx
  unfold LtR.cells LtR.comCells
  rw [List.drop_left' h1, List.take_append, List.take_of_length_le (by omega), h2]
  rfl
theorem LtR.com_length (hx : x.wf) : x.comCells.length = 35 := by simp [LtR.comCells, x.mid_length hx]
theorem LtR.hdr_at (h : RowAt w g 0 x.cells) (hx : x.wf) : RowAt w g 0 x.header.cells := LtR.header_at h hx
/-- a hash of the header, from place k on -/
theorem hdr_part {d : HeaderD} (hd : d.wf) : (d.cells.drop 3).take 32 = Lib.byteCells d.last ∧ (d.cells.drop 35).take 32 = Lib.byteCells d.set ∧ (d.cells.drop 67).take 32 = Lib.byteCells d.next ∧ (d.cells.drop 99).take 32 = Lib.byteCells d.data ∧ (d.cells.drop 131).take 32 = Lib.byteCells d.app := by
  obtain ⟨s, n, t, l1, l2, l3, l4, l5⟩ := d
  obtain ⟨_, _, _, h1, h2, h3, h4, h5⟩ := hd
  dsimp only at h1 h2 h3 h4 h5
  unfold HeaderD.cells
  dsimp only
  have b1 : (Lib.byteCells l1).length = 32 := by rw [Lib.byteCells_length, h1]
  have b2 : (Lib.byteCells l2).length = 32 := by rw [Lib.byteCells_length, h2]
  have b3 : (Lib.byteCells l3).length = 32 := by rw [Lib.byteCells_length, h3]
  have b4 : (Lib.byteCells l4).length = 32 := by rw [Lib.byteCells_length, h4]
  have b5 : (Lib.byteCells l5).length = 32 := by rw [Lib.byteCells_length, h5]
  generalize Lib.byteCells l1 = c1 at *
  generalize Lib.byteCells l2 = c2 at *
  generalize Lib.byteCells l3 = c3 at *
  generalize Lib.byteCells l4 = c4 at *
  generalize Lib.byteCells l5 = c5 at *
  have key : ∀ (p q r : List Value) (k : Nat), p.length = k → q.length = 32 → ((p ++ q ++ r).drop k).take 32 = q := fun p q r k hp hq => by
    rw [List.append_assoc, List.drop_left' hp, List.take_left' hq]
  generalize hq : ([Value.string s, .int .i64 n, .int .i64 t] : List Value) = q
  have bq : q.length = 3 := by rw [← hq]; rfl
  have k1 := key q c1 (c2 ++ c3 ++ c4 ++ c5) 3 bq b1
  have k2 := key (q ++ c1) c2 (c3 ++ c4 ++ c5) 35 (by simp [bq, b1]) b2
  have k3 := key (q ++ c1 ++ c2) c3 (c4 ++ c5) 67 (by simp [bq, b1, b2]) b3
  have k4 := key (q ++ c1 ++ c2 ++ c3) c4 c5 99 (by simp [bq, b1, b2, b3]) b4
  have k5 := key (q ++ c1 ++ c2 ++ c3 ++ c4) c5 [] 131 (by simp [bq, b1, b2, b3, b4]) b5
  simp only [List.append_assoc, List.append_nil] at k1 k2 k3 k4 k5 ⊢
  exact ⟨k1, k2, k3, k4, k5⟩
theorem LtR.last_at (h : RowAt w g 0 x.cells) (hx : x.wf) : RowAt w g 3 (Lib.byteCells x.header.last) := part_of (k := 3) (n := 32) (LtR.hdr_at h hx) (hdr_part hx.header).1
theorem LtR.hset_at (h : RowAt w g 0 x.cells) (hx : x.wf) : RowAt w g 35 (Lib.byteCells x.header.set) := part_of (k := 35) (n := 32) (LtR.hdr_at h hx) (hdr_part hx.header).2.1
theorem LtR.hnext_at (h : RowAt w g 0 x.cells) (hx : x.wf) : RowAt w g 67 (Lib.byteCells x.header.next) := part_of (k := 67) (n := 32) (LtR.hdr_at h hx) (hdr_part hx.header).2.2.1
theorem LtR.happ_at (h : RowAt w g 0 x.cells) (hx : x.wf) : RowAt w g 131 (Lib.byteCells x.header.app) := part_of (k := 131) (n := 32) (LtR.hdr_at h hx) (hdr_part hx.header).2.2.2.2
theorem LtR.cblk_at (h : RowAt w g 0 x.cells) (hx : x.wf) : RowAt w g 165 (Lib.byteCells x.block) := by
  have h1 := LtR.com_at h hx
  have h2 := h1.part 2 32
  have e : ((x.comCells.drop 2).take 32) = Lib.byteCells x.block := by
    have hb : (Lib.byteCells x.block).length = 32 := by rw [Lib.byteCells_length, hx.block]
    unfold LtR.comCells LtR.mid
    show ((Lib.byteCells x.block ++ ([.slice x.sa x.sn x.sc] : List Value)).take 32) = _
    rw [List.take_left' hb]
  rwa [e] at h2
theorem LtR.cells_at (h : RowAt w g 0 x.cells) (hx : x.wf) : w.cell? ⟨g, 0, none⟩ = some (.string x.header.chain) ∧ w.cell? ⟨g, 1, none⟩ = some (.int .i64 x.header.height) ∧ w.cell? ⟨g, 2, none⟩ = some (.int .i64 x.header.time) ∧
    w.cell? ⟨g, 163, none⟩ = some (.int .i64 x.height) ∧ w.cell? ⟨g, 164, none⟩ = some (.int .i64 x.round) ∧ w.cell? ⟨g, 197, none⟩ = some (.slice x.sa x.sn x.sc) ∧ w.cell? ⟨g, 198, none⟩ = some (.slice x.ta x.tn x.tc) ∧ w.cell? ⟨g, 199, none⟩ = some (.slice x.na x.nn x.nc) := by
  have h0 := h 0 _ rfl; have h1 := h 1 _ rfl; have h2 := h 2 _ rfl
  have hc := LtR.com_at h hx
  have h3 := hc 0 _ rfl; have h4 := hc 1 _ rfl
  have h5 := LtR.seals_at h hx; have h6 := LtR.set_at h hx; have h7 := LtR.next_at h hx
  rw [Nat.zero_add] at h0 h1 h2 h5 h6 h7
  exact ⟨h0, h1, h2, h3, h4, h5, h6, h7⟩
end

end Go.Proofs.YtbhghlendbcejaaGreatDoor
