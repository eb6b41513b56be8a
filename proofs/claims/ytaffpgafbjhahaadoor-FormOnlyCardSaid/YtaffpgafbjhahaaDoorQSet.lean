/- Walks: nuncioref06.readSet, readCommit. Plain law: what the document's readers of lists answer is what decode answers. Walks: nuncioref06.ReadSet, ReadCommit. -/
import Derived.Test.YtaffpgafbjhahaaDoorRefD
import Derived.Test.YtaffpgafbjhahaaDoorDecL
import Derived.Deep.CutRange
import Derived.Test.YtaffpgafbjhahaaDoorDecs
import Derived.Test.YtaffpgafbjhahaaDoorQVote
import Derived.Test.YtaffpgafbjhahaaDoorRefSet
namespace Go.Proofs.YtaffpgafbjhahaaDoor
open Go.RowKit
set_option maxRecDepth 100000

theorem bCommit1 (h : Int) : Tryd.prog.built 68 [(0, .int .i64 h)] = some (commitV h 0 (List.replicate 32 0) (.slice none 0 0)).toArray := by kernel_rfl
theorem commitV_set1 (h r r' : Int) (l : List UInt8) (v : Value) : (commitV h r l v).set 1 (.int .i64 r') = commitV h r' l v := rfl
theorem commitV_block (h r : Int) (l l' : List UInt8) (v : Value) (hl : l.length = 32) (hl' : l'.length = 32) : (commitV h r l v).take 2 ++ Lib.byteCells l' ++ (commitV h r l v).drop (2 + (Lib.byteCells l').length) = commitV h r l' v := by
  simp [commitV, List.drop_append, Lib.byteCells_length, hl, hl', List.drop_eq_nil_of_le]
theorem one_seals : (Tryd.prog.info? 66).map (·.size) = some 1 := by kernel_rfl

theorem kst_none (k : Int) : kst k none = none := by unfold kst; split <;> rfl
theorem rdSet_wf (s : RS) : ∀ v ∈ (rdSet s).1, v.wf := rdVals_wf (rdCount 64 s).1.toNat (rdCount 64 s).2
theorem rdSet_none : (rdSet none).2 = none := rfl
theorem rdCommit_none : (rdCommit none).2 = none := rfl
theorem decQSet (l : List UInt8) : decSet l = if (rdSet (kst 3 (some l))).2 = some [] then some (rdSet (kst 3 (some l))).1 else none := by
  by_cases hk : (rdNum (some l)).1 = 3
  · rw [kst_eq hk]; unfold decSet
    by_cases h : (rdSet (rdNum (some l)).2).2 = some []
    · rw [if_pos ⟨hk, h⟩, if_pos h]
    · rw [if_neg (fun x => h x.2), if_neg h]
  · rw [kst_ne rfl hk, rdSet_none, if_neg (by simp)]
    exact if_neg (fun h => hk h.1)
theorem okN_rd (s : RS) : okCommitN (rdCommit s).1 = okCommit (rdCommit s).1 := by
  unfold okCommitN; rw [decide_eq_true (rdCommit_n s), Bool.and_true]
theorem decQCommit (l : List UInt8) : decCommit l = if (decide ((rdCommit (kst 4 (some l))).2 = some []) && okCommitN (rdCommit (kst 4 (some l))).1) = true then some (rdCommit (kst 4 (some l))).1 else none := by
  by_cases hk : (rdNum (some l)).1 = 4
  · rw [kst_eq hk, okN_rd]; unfold decCommit
    by_cases h : (rdCommit (rdNum (some l)).2).2 = some []
    · by_cases ho : okCommit (rdCommit (rdNum (some l)).2).1 = true
      · rw [if_pos ⟨hk, h, ho⟩, if_pos (by rw [decide_eq_true h, ho]; rfl)]
      · rw [if_neg (fun x => ho x.2.2), if_neg (by rw [decide_eq_true h, Bool.true_and]; exact ho)]
    · rw [if_neg (fun x => h x.2.1), if_neg (by rw [decide_eq_false h, Bool.false_and]; simp)]
  · rw [kst_ne rfl hk, rdCommit_none, if_neg (by simp)]
    exact if_neg (fun h => hk h.1)
/-- a light block, read by the document's reader behind its kind -/
def QL (s : RS) (L : LightD) (s5 : RS) : Prop :=
  ∃ s2 s3 s4, rdHeader (kst 2 s) = (L.header, s2) ∧ rdCommit (kst 4 s2) = (L.commit, s3) ∧ rdSet (kst 3 s3) = (L.set, s4) ∧ rdSet (kst 3 s4) = (L.next, s5)
theorem fst_wf_header {s s2 : RS} {d : HeaderD} (h : rdHeader s = (d, s2)) : d.wf := by have := rdHeader_wf s; rw [h] at this; exact this
theorem fst_wf_commit {s s2 : RS} {d : CommitD} (h : rdCommit s = (d, s2)) : d.wf := by have := rdCommit_wf s; rw [h] at this; exact this
theorem fst_wf_set {s s2 : RS} {d : List ValD} (h : rdSet s = (d, s2)) : ∀ v ∈ d, v.wf := by have := rdSet_wf s; rw [h] at this; exact this
theorem fst_len_set {s s2 : RS} {d : List ValD} (h : rdSet s = (d, s2)) : d.length ≤ 64 := by have := rdSet_len s; rw [h] at this; exact this
theorem fst_ok_commit {s s2 : RS} {d : CommitD} (h : rdCommit s = (d, s2)) : okCommitN d = okCommit d := by have := okN_rd s; rw [h] at this; exact this
theorem snd_header {s2 : RS} {d : HeaderD} (h : rdHeader none = (d, s2)) : s2 = none := by have := rdHeader_none; rw [h] at this; exact this
theorem snd_commit {s2 : RS} {d : CommitD} (h : rdCommit none = (d, s2)) : s2 = none := by have := rdCommit_none; rw [h] at this; exact this
theorem snd_set {s2 : RS} {d : List ValD} (h : rdSet none = (d, s2)) : s2 = none := by have := rdSet_none; rw [h] at this; exact this
theorem QL.wf {s s5 : RS} {L : LightD} (h : QL s L s5) : L.wf := by
  obtain ⟨s2, s3, s4, h1, h2, h3, h4⟩ := h
  exact ⟨fst_wf_header h1, fst_wf_commit h2, fst_wf_set h3, fst_wf_set h4⟩
theorem QL.ok {s s5 : RS} {L : LightD} (h : QL s L s5) : okLight L = (okHeader L.header && okCommit L.commit) := by
  obtain ⟨s2, s3, s4, h1, h2, h3, h4⟩ := h
  unfold okLight okSet
  rw [fst_ok_commit h2, decide_eq_true (fst_len_set h3), decide_eq_true (fst_len_set h4)]
  simp
theorem lS2_of {s s2 : RS} {d : HeaderD} (h : rdHeader (rdNum s).2 = (d, s2)) : lS2 s = s2 := by unfold lS2; rw [h]
theorem lS3_of {s s2 s3 : RS} {d : CommitD} (f : lS2 s = s2) (h : rdCommit (rdNum s2).2 = (d, s3)) : lS3 s = s3 := by unfold lS3; rw [f, h]
theorem lS4_of {s s3 s4 : RS} {d : List ValD} (f : lS3 s = s3) (h : rdSet (rdNum s3).2 = (d, s4)) : lS4 s = s4 := by unfold lS4; rw [f, h]
theorem lS5_of {s s4 s5 : RS} {d : List ValD} (f : lS4 s = s4) (h : rdSet (rdNum s4).2 = (d, s5)) : lS5 s = s5 := by unfold lS5; rw [f, h]
theorem QL.yes {s s5 : RS} {L : LightD} (h : QL s L s5) (hk : lKinds s = true) : L = rdLight s ∧ s5 = lS5 s := by
  obtain ⟨s2, s3, s4, h1, h2, h3, h4⟩ := h
  simp only [lKinds, Bool.and_eq_true, decide_eq_true_eq] at hk
  obtain ⟨k1, k2, k3, k4⟩ := hk
  rw [kst_eq k1] at h1
  have f2 := lS2_of h1
  rw [f2] at k2; rw [kst_eq k2] at h2
  have f3 := lS3_of f2 h2
  rw [f3] at k3; rw [kst_eq k3] at h3
  have f4 := lS4_of f3 h3
  rw [f4] at k4; rw [kst_eq k4] at h4
  have f5 := lS5_of f4 h4
  refine ⟨?_, f5.symm⟩
  unfold rdLight
  rw [f2, f3, f4, h1, h2, h3, h4]
theorem QL.no {s s5 : RS} {L : LightD} (h : QL s L s5) (hk : lKinds s = false) : s5 = none := by
  obtain ⟨s2, s3, s4, h1, h2, h3, h4⟩ := h
  by_cases k1 : (rdNum s).1 = 2
  case neg =>
    rw [kst_ne rfl k1] at h1; obtain rfl := snd_header h1
    rw [kst_none] at h2; obtain rfl := snd_commit h2
    rw [kst_none] at h3; obtain rfl := snd_set h3
    rw [kst_none] at h4; exact snd_set h4
  rw [kst_eq k1] at h1
  have f2 := lS2_of h1
  by_cases k2 : (rdNum s2).1 = 4
  case neg =>
    rw [kst_ne rfl k2] at h2; obtain rfl := snd_commit h2
    rw [kst_none] at h3; obtain rfl := snd_set h3
    rw [kst_none] at h4; exact snd_set h4
  rw [kst_eq k2] at h2
  have f3 := lS3_of f2 h2
  by_cases k3 : (rdNum s3).1 = 3
  case neg =>
    rw [kst_ne rfl k3] at h3; obtain rfl := snd_set h3
    rw [kst_none] at h4; exact snd_set h4
  rw [kst_eq k3] at h3
  have f4 := lS4_of f3 h3
  by_cases k4 : (rdNum s4).1 = 3
  case neg => rw [kst_ne rfl k4] at h4; exact snd_set h4
  exfalso
  unfold lKinds at hk
  rw [f2, f3, f4, decide_eq_true k1, decide_eq_true k2, decide_eq_true k3, decide_eq_true k4] at hk
  cases hk
theorem QL.none_ {s5 : RS} {L : LightD} (h : QL none L s5) : s5 = none := by
  obtain ⟨s2, s3, s4, h1, h2, h3, h4⟩ := h
  rw [kst_none] at h1; obtain rfl := snd_header h1
  rw [kst_none] at h2; obtain rfl := snd_commit h2
  rw [kst_none] at h3; obtain rfl := snd_set h3
  rw [kst_none] at h4; exact snd_set h4
theorem decQL {l : List UInt8} {s5 : RS} {L : LightD} (h : QL (kst 5 (some l)) L s5) : decLight l = if (decide (s5 = some []) && okLight L) = true then some L else none := by
  rw [h.ok]
  by_cases hk : (rdNum (some l)).1 = 5
  · rw [kst_eq hk] at h
    unfold decLight
    generalize (rdNum (some l)).2 = s at *
    cases hks : lKinds s with
    | true =>
      obtain ⟨e1, e2⟩ := h.yes hks
      rw [← e1, ← e2]
      by_cases h5 : s5 = some []
      · by_cases ho : (okHeader L.header && okCommit L.commit) = true
        · rw [if_pos ⟨hk, rfl, h5, ho⟩, if_pos (by rw [decide_eq_true h5, ho]; rfl)]
        · rw [if_neg (fun x => ho x.2.2.2), if_neg (by rw [decide_eq_true h5, Bool.true_and]; exact ho)]
      · rw [if_neg (fun x => h5 x.2.2.1), if_neg (by rw [decide_eq_false h5, Bool.false_and]; simp)]
    | false =>
      rw [h.no hks, if_neg (by simp), if_neg (by simp)]
  · rw [kst_ne rfl hk] at h
    rw [h.none_, if_neg (by simp)]
    exact if_neg (fun h => hk h.1)

theorem endsN_yes {st : RS} {ok : Bool} (h : (decide (st = some []) && ok) = true) : endsN st ok = 0 := by unfold endsN; rw [h]; rfl
theorem endsN_no {st : RS} {ok : Bool} (h : (decide (st = some []) && ok) = false) : endsN st ok = 61 := by unfold endsN; rw [h]; rfl

theorem bCommit0 : Tryd.prog.built 68 [] = some ZCommit.toArray := by kernel_rfl

theorem built_prefix {P : Program} (t : TypeId) (fields : Array Field) (places : List (Nat × Nat)) (vs : List Value) (Z : List Value) (hu : P.underlying t = some (.struct fields))
    (hp : fields.toList.mapM (fun f => (P.info? f.type).map fun i => (f.offset, i.size)) = some places)
    (hz : (P.info? t).map (fun i => i.zero.map (fun v => v.cells)) = some (some Z.toArray)) (hn : (flatCells vs).length ≤ Z.length)
    (hl : Laid (places.toArray[·]?) 0 0 vs) : P.built t ((vs.zipIdx 0).map fun x => (x.2, x.1)) = some (flatCells vs ++ Z.drop (flatCells vs).length).toArray := by
  unfold Program.built
  cases hi : P.info? t with
  | none => simp [hi] at hz
  | some it =>
    cases hzz : it.zero with
    | none => simp [hi, hzz] at hz
    | some z =>
      have hs : z.cells = Z.toArray := by simpa [hi, hzz] using hz
      simp only [hu, hp, hzz]
      have := fill_laid (places.toArray[·]?) vs 0 [] (Z.take (flatCells vs).length) (Z.drop (flatCells vs).length) hl (by rw [List.length_take]; omega)
      rw [hs]
      simpa using this

def lightV (h c : List Value) (s n : Value) : List Value := h ++ c ++ [s, n]
theorem lightV_len (h c : List Value) (s n : Value) (hh : h.length = 163) (hc : c.length = 35) : (lightV h c s n).length = 200 := by simp [lightV, hh, hc]
theorem bLight1 (h : List Value) (hh : h.length = 163) : Tryd.prog.built 71 [(0, .agg h.toArray)] = some (lightV h ZCommit (.slice none 0 0) (.slice none 0 0)).toArray := by
  have e : flatCells [.agg h.toArray] = h := by simp [flatCells, Value.cells]
  have := built_prefix (P := Tryd.prog) 71 _ [(0, 163), (163, 35), (198, 1), (199, 1)] [.agg h.toArray] ZLight Tryd.underlying71 (by kernel_rfl) ZLight_info (by rw [e, hh, ZLight_length]; omega) ⟨by simp [Value.cells, hh], trivial⟩
  rw [e, hh, show ZLight.drop 163 = ZCommit ++ [.slice none 0 0, .slice none 0 0] from rfl] at this
  refine Eq.trans this ?_
  unfold lightV; rw [List.append_assoc]
theorem lightV_one {h c : List Value} {s n : Value} (hh : ∀ v ∈ h, v.oneCell' = true) (hc : ∀ v ∈ c, v.oneCell' = true) (hs : s.oneCell' = true) (hn : n.oneCell' = true) : ∀ v ∈ lightV h c s n, v.oneCell' = true := by
  intro v hv
  simp only [lightV, List.mem_append, List.mem_cons, List.not_mem_nil, or_false] at hv
  rcases hv with (hv | hv) | (rfl | rfl)
  · exact hh v hv
  · exact hc v hv
  · exact hs
  · exact hn
theorem lightV_part (h c c' : List Value) (s n : Value) (hh : h.length = 163) (hc : c.length = 35) (hc' : c'.length = 35) : (lightV h c s n).take 163 ++ c' ++ (lightV h c s n).drop (163 + c'.length) = lightV h c' s n := by
  unfold lightV
  rw [List.append_assoc h c, List.take_left' hh, hc', ← List.append_assoc h c, List.drop_left' (by simp [hh, hc])]
theorem lightV_set0 (h c : List Value) (s n v : Value) (hh : h.length = 163) (hc : c.length = 35) : (lightV h c s n).set 198 v = lightV h c v n := by
  unfold lightV; rw [List.set_append_right _ _ (by simp [hh, hc])]; simp [hh, hc]
theorem lightV_set1 (h c : List Value) (s n v : Value) (hh : h.length = 163) (hc : c.length = 35) : (lightV h c s n).set 199 v = lightV h c s v := by
  unfold lightV; rw [List.set_append_right _ _ (by simp [hh, hc])]; simp [hh, hc]
theorem rdHeader_chain (s : RS) : (rdHeader s).1.chain.size ≤ 140737488340000 := by
  show (rdText _).1.toArray.size ≤ _
  have := rdText_len (headerT0 s)
  rw [List.size_toArray]; exact Nat.le_trans this (by omega)
theorem bLight0 : Tryd.prog.built 71 [] = some ZLight.toArray := by kernel_rfl
theorem one_vals : (Tryd.prog.info? 69).map (·.size) = some 1 := by kernel_rfl

end Go.Proofs.YtaffpgafbjhahaaDoor
