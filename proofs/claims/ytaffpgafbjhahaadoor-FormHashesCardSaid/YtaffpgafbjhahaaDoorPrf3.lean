/- What a proof's reading answers; how a proof of the call's own lies. -/
import Derived.Test.YtaffpgafbjhahaaDoorPrf2
import Derived.Test.YtaffpgafbjhahaaDoorDecL
namespace Go.Proofs.YtaffpgafbjhahaaDoor
open Go.RowKit
set_option maxRecDepth 100000

def rdPath : Nat → RS → List (List UInt8) × RS
  | 0, s => ([], s)
  | k + 1, s => ((rdPath k s).1 ++ [(rdHash (rdPath k s).2).1], (rdHash (rdPath k s).2).2)
def pS1 (s : RS) : RS := (rdNum s).2
def pS2 (s : RS) : RS := (rdText (pS1 s)).2
def pS3 (s : RS) : RS := (rdText (pS2 s)).2
def pS4 (s : RS) : RS := (rdCount 16 (pS3 s)).2
def pN (s : RS) : Nat := (rdCount 16 (pS3 s)).1.toNat
def rdPart (s : RS) : PartD × RS := (⟨(rdNum s).1, ⟨(rdText (pS1 s)).1.toArray⟩, ⟨(rdText (pS2 s)).1.toArray⟩, (rdPath (pN s) (pS4 s)).1⟩, (rdPath (pN s) (pS4 s)).2)
def rdParts : Nat → RS → List PartD × RS
  | 0, s => ([], s)
  | k + 1, s => ((rdParts k s).1 ++ [(rdPart (rdParts k s).2).1], (rdPart (rdParts k s).2).2)
def rdProof (s : RS) : ProofD × RS := ({ size := (rdNum s).1, parts := (rdParts (rdCount 2 (rdNum s).2).1.toNat (rdCount 2 (rdNum s).2).2).1 }, (rdParts (rdCount 2 (rdNum s).2).1.toNat (rdCount 2 (rdNum s).2).2).2)
theorem rdPath_len (k : Nat) (s : RS) : (rdPath k s).1.length = k := by
  induction k with
  | zero => rfl
  | succ k ih => simp [rdPath, ih]
theorem rdPath_32 (k : Nat) (s : RS) : ∀ h ∈ (rdPath k s).1, h.length = 32 := by
  induction k with
  | zero => simp [rdPath]
  | succ k ih =>
    intro v hv
    simp only [rdPath, List.mem_append, List.mem_cons, List.not_mem_nil, or_false] at hv
    rcases hv with hv | rfl
    · exact ih v hv
    · exact rdHash_len _
theorem rdParts_len (k : Nat) (s : RS) : (rdParts k s).1.length = k := by
  induction k with
  | zero => rfl
  | succ k ih => simp [rdParts, ih]
theorem rdPart_wf (s : RS) : (rdPart s).1.wf := by
  have h1 := rdText_len (pS1 s); have h2 := rdText_len (pS2 s)
  refine ⟨rdNum_R _, ?_, ?_, rdPath_32 _ _⟩
  · show (rdText (pS1 s)).1.toArray.size ≤ maxLen
    rw [List.size_toArray]; unfold maxLen; omega
  · show (rdText (pS2 s)).1.toArray.size ≤ maxLen
    rw [List.size_toArray]; unfold maxLen; omega
theorem rdPart_small (s : RS) : pBad (rdPart s).1 = false ∧ (rdPart s).1.path.length ≤ 16 := by
  have h1 := rdText_len (pS1 s); have h2 := rdText_len (pS2 s)
  constructor
  · have e1 : (rdPart s).1.key.size ≤ 4096 := by show (rdText (pS1 s)).1.toArray.size ≤ 4096; rw [List.size_toArray]; exact h1
    have e2 : (rdPart s).1.value.size ≤ 4096 := by show (rdText (pS2 s)).1.toArray.size ≤ 4096; rw [List.size_toArray]; exact h2
    unfold pBad; simp; omega
  · show (rdPath _ _).1.length ≤ 16
    rw [rdPath_len]
    have := rdCount_R 16 (pS3 s) (by omega)
    unfold pN; omega
theorem rdParts_all (k : Nat) (s : RS) : ∀ x ∈ (rdParts k s).1, x.wf ∧ pBad x = false ∧ x.path.length ≤ 16 := by
  induction k with
  | zero => simp [rdParts]
  | succ k ih =>
    intro v hv
    simp only [rdParts, List.mem_append, List.mem_cons, List.not_mem_nil, or_false] at hv
    rcases hv with hv | rfl
    · exact ih v hv
    · exact ⟨rdPart_wf _, rdPart_small _⟩
theorem rdProof_wf (s : RS) : (rdProof s).1.wf := ⟨rdNum_R _, fun x hx => (rdParts_all _ _ x hx).1⟩
theorem rdProof_ok (s : RS) : okProof (rdProof s).1 = chkProof (rdProof s).1 := by
  have h2 : (rdProof s).1.parts.length ≤ 2 := by
    show (rdParts _ _).1.length ≤ 2
    rw [rdParts_len]
    have := rdCount_R 2 (rdNum s).2 (by omega)
    omega
  have h3 : ((rdProof s).1.parts.all fun x => decide (x.path.length ≤ 16)) = true := List.all_eq_true.2 fun x hx => decide_eq_true (rdParts_all _ _ x hx).2.2
  have h4 : (rdProof s).1.parts.any pBad = false := List.any_eq_false.2 fun x hx => by rw [(rdParts_all _ _ x hx).2.1]; simp
  unfold okProof rightP
  rw [decide_eq_true h2, h3, h4]; simp

/-- a path in a block of the call's own, from block B on, that is not the parts' -/
def PF (B : Nat) (w : World) (own : Option Nat) (pv : Value) (l : List (List UInt8)) : Prop := w.ownsRow B 24 32 pv l.length (pathCells l) ∧ ∀ g, pv.ownBlock = some g → own ≠ some g
theorem PF.app {B : Nat} {w w' : World} {v v' pv : Value} {l : List (List UInt8)} (h : PF B w v.ownBlock pv l) (hg : w.grownBy w' v.ownBlock) (h4 : v'.ownBlock = v.ownBlock ∨ v'.ownBlock = some w.heap.size) : PF B w' v'.ownBlock pv l := by
  obtain ⟨h1, h2⟩ := h
  refine ⟨World.ownsRow.kept h1 hg ?_, fun g hgb => ?_⟩
  · cases hp : pv.ownBlock with
    | none => exact Or.inl rfl
    | some g => exact Or.inr (fun e => h2 g hp e.symm)
  · rcases h4 with e | e
    · rw [e]; exact h2 g hgb
    · rw [e]; intro e2; injection e2 with e2
      have := (World.ownsRow.lt h1 g hgb).2
      omega
theorem PF.stays {B : Nat} {w w' : World} {own : Option Nat} {pv : Value} {l : List (List UInt8)} (h : PF B w own pv l) (hs : ∀ b, B ≤ b → b < w.heap.size → w'.heap[b]? = w.heap[b]?) : PF B w' own pv l := ⟨own_stays h.1 hs, h.2⟩
theorem PF.mono {B B' : Nat} {w : World} {own : Option Nat} {pv : Value} {l : List (List UInt8)} (h : PF B w own pv l) (hB : B' ≤ B) : PF B' w own pv l := ⟨own_mono h.1 hB, h.2⟩
/-- a proof in blocks of the call's own -/
def ProofD.own (B : Nat) (w : World) (p : ProofD) (cs : List Value) : Prop := ∃ sl pcs, w.ownsRow B 46 4 sl p.parts.length pcs ∧ partsR (PF B w sl.ownBlock) p.parts pcs ∧ cs = [.int .i64 p.size, sl]
theorem ProofD.own.rep {B : Nat} {w : World} {p : ProofD} {cs : List Value} (h : p.own B w cs) : p.rep w.heap.size w cs := by
  obtain ⟨sl, pcs, h1, h2, h3⟩ := h
  exact ⟨sl, pcs, rds_of_own h1, h2.mono fun v l hv => (rds_of_own hv.1).e, h3⟩
theorem ProofD.own.stays {B : Nat} {w w' : World} {p : ProofD} {cs : List Value} (h : p.own B w cs) (hs : ∀ b, B ≤ b → b < w.heap.size → w'.heap[b]? = w.heap[b]?) : p.own B w' cs := by
  obtain ⟨sl, pcs, h1, h2, h3⟩ := h
  exact ⟨sl, pcs, own_stays h1 hs, h2.mono fun v l hv => PF.stays hv hs, h3⟩
theorem ProofD.own.mono {B B' : Nat} {w : World} {p : ProofD} {cs : List Value} (h : p.own B w cs) (hB : B' ≤ B) : p.own B' w cs := by
  obtain ⟨sl, pcs, h1, h2, h3⟩ := h
  exact ⟨sl, pcs, own_mono h1 hB, h2.mono fun v l hv => PF.mono hv hB, h3⟩
theorem ProofD.own.one {B : Nat} {w : World} {p : ProofD} {cs : List Value} (h : p.own B w cs) : ∀ v ∈ cs, v.oneCell' = true := by
  obtain ⟨sl, pcs, h1, h2, rfl⟩ := h
  obtain ⟨a, n, k, rfl⟩ := own_shape h1
  simp [Value.oneCell']
theorem ProofD.own.length {B : Nat} {w : World} {p : ProofD} {cs : List Value} (h : p.own B w cs) : cs.length = 2 := by
  obtain ⟨sl, pcs, h1, h2, rfl⟩ := h; rfl

/-- append(v, thing): the thing lies in a block -/
theorem wpList_app_blk {P : Program} {ops : Array Oper} {rest : List Oper} {o : Oper} {a : Act} {w : World} {Q : Exit → Act → World → Prop} (hgd : Region.wanted o (yielded ops a.tmps) = true) (s x : Operand) (t : TypeId)
    (ho : o.op = .call { callee := .builtin .append, args := #[s, x], argTypes := #[t, t] })
    (base : Nat) (e : TypeId) (z : Value) (size bytes : Nat) (ht : P.underlying t = some (.slice e)) (hi : (P.info? e).map (fun i => (i.zero, i.size, i.bytes)) = some (some z, size, bytes)) (hzs : z.cells.size = size)
    (v : Value) (n : Nat) (xs : List Value) (hs : a.eval s = v) (hown : w.ownsRow base e size v n xs) (m : Nat) (hx : a.eval x = .slice (some ⟨m, 0, none⟩) 1 1) (cs : List Value) (hr : RowAt w m 0 cs) (hcs : cs.length = size) (h1 : ∀ u ∈ cs, u.oneCell' = true)
    (hn : n ≤ 1000000) (hbytes : bytes ≤ 10000) (hbase : base ≤ w.heap.size)
    (h : ∀ v' w', w'.ownsRow base e size v' (n + 1) (xs ++ cs) → w.grownBy w' v.ownBlock → Below base w w' → (v'.ownBlock = v.ownBlock ∨ v'.ownBlock = some w.heap.size) → wpList P ops Q rest (a.put o.dst v') w') :
    wpList P ops Q (o :: rest) a w := by
  have hsrc : Src P size t (.slice (some ⟨m, 0, none⟩) 1 1) 1 cs w := by
    refine Src.ofSlice _ ht _ 1 1 cs (by rw [hcs, Nat.one_mul]) (fun j u hj => ?_) h1
    rw [addr_add]; exact hr j u hj
  refine wpList_wanted hgd fun K hK => ?_
  refine wp_append_srcs w s x t t ho base e z size bytes ht hi hzs v n xs hs hown _ 1 cs hx hsrc (by unfold maxLen; omega) ?_ hbase ?_
  · have : (n + 1) * bytes ≤ 1000001 * 10000 := Nat.mul_le_mul (by omega) hbytes
    omega
  · intro v' w' g1 g2 g3 g4
    exact hK _ _ (h v' w' g1 g2 g3 g4)
theorem part_info : (Tryd.prog.info? 46).map (fun i => (i.zero, i.size, i.bytes)) = some (some (.agg #[.int .i64 0, .string ⟨#[]⟩, .string ⟨#[]⟩, .slice none 0 0]), 4, 64) := by kernel_rfl
theorem hash_info3 : (Tryd.prog.info? 24).map (fun i => (i.zero, i.size, i.bytes)) = some (some (.agg (Lib.byteCells (List.replicate 32 0)).toArray), 32, 32) := by kernel_rfl
theorem part_zs : (Tryd.prog.info? 46).map (fun i => (i.zero, i.size)) = some (some (.agg #[.int .i64 0, .string ⟨#[]⟩, .string ⟨#[]⟩, .slice none 0 0]), 4) := by kernel_rfl
theorem pathCells_snoc (k : Nat) (s : RS) : pathCells (rdPath (k + 1) s).1 = pathCells (rdPath k s).1 ++ Lib.byteCells (rdHash (rdPath k s).2).1 := by
  simp [rdPath, pathCells]
theorem PF_new {B : Nat} {w : World} {own : Option Nat} {pv : Value} {l : List (List UInt8)} {M : Nat} (h : w.ownsRow M 24 32 pv l.length (pathCells l)) (hM : B ≤ M) (ho : ∀ g, own = some g → g < M) : PF B w own pv l := by
  refine ⟨own_mono h hM, fun g hg e => ?_⟩
  have h1 := (World.ownsRow.lt h g hg).1
  have h2 := ho g e
  omega

end Go.Proofs.YtaffpgafbjhahaaDoor
