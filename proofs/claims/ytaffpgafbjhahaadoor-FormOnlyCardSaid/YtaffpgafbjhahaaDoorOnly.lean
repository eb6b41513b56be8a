/- Plain laws: what is decoded is what is encoded; with more behind it, it is nothing. No program's text is walked here. -/
import Derived.Test.YtaffpgafbjhahaaDoorBack
import Derived.Test.YtaffpgafbjhahaaDoorPrf5
namespace Go.Proofs.YtaffpgafbjhahaaDoor
open Go.RowKit
set_option maxRecDepth 100000

theorem be64_ofBe (t : List UInt8) (h : t.length = 8) : be64 (ofBe t : Nat) = t := by
  have h1 := ofBe_lt t
  have h2 := be_ofBe t
  rw [h] at h1 h2
  unfold be64
  rw [show ((ofBe t : Int) % 18446744073709551616).toNat = ofBe t by omega]
  exact h2
theorem be64_wrap64 (n : Int) : be64 (wrap64 n) = be64 n := by
  unfold be64 wrap64; congr 1; omega
theorem wordB {st : RS} {s : List UInt8} (h : (rdWord st).2 = some s) : st = some (be64 (rdWord st).1 ++ s) := by
  unfold rdWord at h ⊢
  cases st with
  | none => cases h
  | some l =>
    dsimp only at h ⊢
    by_cases h8 : 8 ≤ l.length
    · rw [if_pos h8] at h ⊢
      injection h with h; subst h
      rw [be64_ofBe _ (by rw [List.length_take]; omega), List.take_append_drop]
    · rw [if_neg h8] at h; cases h
theorem numB {st : RS} {s : List UInt8} (h : (rdNum st).2 = some s) : st = some (be64 (rdNum st).1 ++ s) := by
  have e : (rdNum st).1 = wrap64 (rdWord st).1 := rfl
  rw [e, be64_wrap64]
  exact wordB h
theorem hashB {st : RS} {s : List UInt8} (h : (rdHash st).2 = some s) : st = some ((rdHash st).1 ++ s) := by
  unfold rdHash at h ⊢
  cases st with
  | none => cases h
  | some l =>
    dsimp only at h ⊢
    by_cases h8 : 32 ≤ l.length
    · rw [if_pos h8] at h ⊢
      injection h with h; subst h
      rw [List.take_append_drop]
    · rw [if_neg h8] at h; cases h
theorem countB {most : Int} {st : RS} {s : List UInt8} (h : (rdCount most st).2 = some s) : st = some (be64 (rdCount most st).1 ++ s) := by
  unfold rdCount at h ⊢
  cases st with
  | none => cases h
  | some l =>
    dsimp only at h ⊢
    by_cases h8 : 8 ≤ l.length ∧ 0 ≤ wrap64 (ofBe (l.take 8)) ∧ wrap64 (ofBe (l.take 8)) ≤ most
    · rw [if_pos h8] at h ⊢
      injection h with h; subst h
      rw [be64_wrap64, be64_ofBe _ (by rw [List.length_take]; omega), List.take_append_drop]
    · rw [if_neg h8] at h; cases h
theorem textB {st : RS} {s : List UInt8} (h : (rdText st).2 = some s) : st = some (textL ⟨(rdText st).1.toArray⟩ ++ s) := by
  unfold rdText at h ⊢
  cases st with
  | none => cases h
  | some l =>
    dsimp only at h ⊢
    by_cases h8 : 2 ≤ l.length ∧ ofBe (l.take 2) ≤ 4096 ∧ ofBe (l.take 2) ≤ (l.drop 2).length
    · rw [if_pos h8] at h ⊢
      injection h with h; subst h
      have e1 : ((⟨((l.drop 2).take (ofBe (l.take 2))).toArray⟩ : ByteArray)).size = ofBe (l.take 2) := by
        show ((l.drop 2).take (ofBe (l.take 2))).toArray.size = _
        rw [List.size_toArray, List.length_take]; omega
      have e2 : be16 (ofBe (l.take 2)) = l.take 2 := by
        have := be_ofBe (l.take 2)
        rw [List.length_take, Nat.min_eq_left h8.1] at this
        exact this
      unfold textL
      rw [e1, e2]
      show some l = some (l.take 2 ++ (l.drop 2).take (ofBe (l.take 2)) ++ (l.drop 2).drop (ofBe (l.take 2)))
      rw [List.append_assoc, List.take_append_drop, List.take_append_drop]
    · rw [if_neg h8] at h; cases h

theorem voteB {st : RS} {s : List UInt8} (h : (rdVote st).2 = some s) : st = some (textL (rdVote st).1.chain ++ (be64 (rdVote st).1.height ++ (be64 (rdVote st).1.round ++ (be64 (rdVote st).1.type ++ ((rdVote st).1.block ++ (be64 (rdVote st).1.key ++ (be64 (rdVote st).1.r ++ (be64 (rdVote st).1.s ++ s)))))))) := by
  have e7 := wordB (st := (rdWord (voteS6 st)).2) h
  have e6 := wordB (st := voteS6 st) e7
  have e5 := wordB (st := voteS5 st) e6
  have e4 := hashB (st := voteS4 st) e5
  have e3 := numB (st := voteS3 st) e4
  have e2 := numB (st := voteS2 st) e3
  have e1 := numB (st := voteS1 st) e2
  exact textB (st := voteS0 st) e1
theorem headerB {st : RS} {s : List UInt8} (h : (rdHeader st).2 = some s) : st = some (textL (rdHeader st).1.chain ++ (be64 (rdHeader st).1.height ++ (be64 (rdHeader st).1.time ++ ((rdHeader st).1.last ++ ((rdHeader st).1.set ++ ((rdHeader st).1.next ++ ((rdHeader st).1.data ++ ((rdHeader st).1.app ++ s)))))))) := by
  have e7 := hashB (st := headerS7 st) h
  have e6 := hashB (st := headerS6 st) e7
  have e5 := hashB (st := headerS5 st) e6
  have e4 := hashB (st := headerS4 st) e5
  have e3 := hashB (st := headerS3 st) e4
  have e2 := numB (st := headerS2 st) e3
  have e1 := numB (st := headerS1 st) e2
  exact textB (st := headerS0 st) e1
theorem packetB {st : RS} {s : List UInt8} (h : (rdPacket st).2 = some s) : st = some (be64 (rdPacket st).1.seq ++ (textL (rdPacket st).1.from_ ++ (textL (rdPacket st).1.data ++ (be64 (rdPacket st).1.timeout ++ s)))) := by
  have e3 := numB (st := (rdText (rdText (rdNum st).2).2).2) h
  have e2 := textB (st := (rdText (rdNum st).2).2) e3
  have e1 := textB (st := (rdNum st).2) e2
  exact numB (st := st) e1
theorem valsB : ∀ (k : Nat) {st : RS} {s : List UInt8}, (rdVals k st).2 = some s → st = some (encVals (rdVals k st).1 ++ s)
  | 0, st, s, h => by rw [show st = some s from h]; rfl
  | k + 1, st, s, h => by
    have e2 := numB (st := (rdWord (rdVals k st).2).2) h
    have e1 := wordB (st := (rdVals k st).2) e2
    have e0 := valsB k (st := st) e1
    refine e0.trans (congrArg some ?_)
    rw [show (rdVals (k + 1) st).1 = (rdVals k st).1 ++ [⟨((rdWord (rdVals k st).2).1 : Nat), (rdNum (rdWord (rdVals k st).2).2).1⟩] from rfl, encVals_snoc]
    simp only [encVal, List.append_assoc]
theorem setB {st : RS} {s : List UInt8} (h : (rdSet st).2 = some s) : st = some (be64 (rdSet st).1.length ++ (encVals (rdSet st).1 ++ s)) := by
  have e1 := valsB _ (st := (rdCount 64 st).2) h
  have e0 := countB (st := st) e1
  have hn := rdCount_R 64 st (by omega)
  have hl : ((rdSet st).1.length : Int) = (rdCount 64 st).1 := by
    show ((rdVals _ _).1.length : Int) = _
    rw [rdVals_len]; omega
  rw [hl]; exact e0
theorem sealsB : ∀ (k : Nat) {st : RS} {s : List UInt8}, (rdSeals k st).2 = some s → st = some (encSeals (rdSeals k st).1 ++ s)
  | 0, st, s, h => by rw [show st = some s from h]; rfl
  | k + 1, st, s, h => by
    have e3 := wordB (st := (rdWord (rdWord (rdSeals k st).2).2).2) h
    have e2 := wordB (st := (rdWord (rdSeals k st).2).2) e3
    have e1 := wordB (st := (rdSeals k st).2) e2
    have e0 := sealsB k (st := st) e1
    refine e0.trans (congrArg some ?_)
    have e : ∀ (l : List SealD) (v : SealD), encSeals (l ++ [v]) = encSeals l ++ encSeal v := by simp [encSeals]
    rw [show (rdSeals (k + 1) st).1 = (rdSeals k st).1 ++ [⟨((rdWord (rdSeals k st).2).1 : Nat), ((rdSig (rdWord (rdSeals k st).2).2).1.1 : Nat), ((rdSig (rdWord (rdSeals k st).2).2).1.2 : Nat)⟩] from rfl, e]
    simp only [encSeal, rdSig, List.append_assoc]
theorem commitB {st : RS} {s : List UInt8} (h : (rdCommit st).2 = some s) : st = some (be64 (rdCommit st).1.height ++ (be64 (rdCommit st).1.round ++ ((rdCommit st).1.block ++ (be64 (rdCommit st).1.seals.length ++ (encSeals (rdCommit st).1.seals ++ s))))) := by
  have e4 := sealsB _ (st := (rdCount 64 (cT3 st)).2) h
  have e3 := countB (st := cT3 st) e4
  have hn := rdCount_R 64 (cT3 st) (by omega)
  have hl : ((rdCommit st).1.seals.length : Int) = (rdCount 64 (cT3 st)).1 := by
    show ((rdSeals _ _).1.length : Int) = _
    rw [rdSeals_len]; omega
  rw [hl]
  have e2 := hashB (st := cT2 st) e3
  have e1 := numB (st := cT1 st) e2
  exact numB (st := st) e1
theorem pathB : ∀ (k : Nat) {st : RS} {s : List UInt8}, (rdPath k st).2 = some s → st = some ((rdPath k st).1.flatten ++ s)
  | 0, st, s, h => by rw [show st = some s from h]; rfl
  | k + 1, st, s, h => by
    have e1 := hashB (st := (rdPath k st).2) h
    have e0 := pathB k (st := st) e1
    refine e0.trans (congrArg some ?_)
    rw [show (rdPath (k + 1) st).1 = (rdPath k st).1 ++ [(rdHash (rdPath k st).2).1] from rfl]
    simp
theorem partB {st : RS} {s : List UInt8} (h : (rdPart st).2 = some s) : st = some (encPart (rdPart st).1 ++ s) := by
  have e4 := pathB _ (st := pS4 st) h
  have e3 := countB (st := pS3 st) e4
  have e2 := textB (st := pS2 st) e3
  have e1 := textB (st := pS1 st) e2
  have e0 := numB (st := st) e1
  have hn := rdCount_R 16 (pS3 st) (by omega)
  have hl : ((rdPart st).1.path.length : Int) = (rdCount 16 (pS3 st)).1 := by
    show ((rdPath _ _).1.length : Int) = _
    rw [rdPath_len]; unfold pN; omega
  refine e0.trans (congrArg some ?_)
  have k1 : (rdPart st).1.key.size ≤ 4096 := by
    show (rdText (pS1 st)).1.toArray.size ≤ 4096; rw [List.size_toArray]; exact rdText_len _
  have k2 : (rdPart st).1.value.size ≤ 4096 := by
    show (rdText (pS2 st)).1.toArray.size ≤ 4096; rw [List.size_toArray]; exact rdText_len _
  unfold encPart textW
  rw [if_pos k1, if_pos k2, hl]
  simp only [List.append_assoc]
  rfl
theorem partsB : ∀ (k : Nat) {st : RS} {s : List UInt8}, (rdParts k st).2 = some s → st = some (encParts (rdParts k st).1 ++ s)
  | 0, st, s, h => by rw [show st = some s from h]; rfl
  | k + 1, st, s, h => by
    have e1 := partB (st := (rdParts k st).2) h
    have e0 := partsB k (st := st) e1
    refine e0.trans (congrArg some ?_)
    rw [show (rdParts (k + 1) st).1 = (rdParts k st).1 ++ [(rdPart (rdParts k st).2).1] from rfl]
    simp [encParts]
theorem proofB {st : RS} {s : List UInt8} (h : (rdProof st).2 = some s) : st = some (be64 (rdProof st).1.size ++ (be64 (rdProof st).1.parts.length ++ (encParts (rdProof st).1.parts ++ s))) := by
  have e2 := partsB _ (st := (rdCount 2 (rdNum st).2).2) h
  have e1 := countB (st := (rdNum st).2) e2
  have e0 := numB (st := st) e1
  have hn := rdCount_R 2 (rdNum st).2 (by omega)
  have hl : ((rdProof st).1.parts.length : Int) = (rdCount 2 (rdNum st).2).1 := by
    show ((rdParts _ _).1.length : Int) = _
    rw [rdParts_len]; omega
  rw [hl]; exact e0

theorem only_vote {b : List UInt8} {d : VoteD} (h : decVote b = some d) : b = encVote d ∧ okVote d = true ∧ d.wf ∧ (rdNum (some b)).1 = 1 := by
  unfold decVote at h
  split at h
  case isFalse => cases h
  case isTrue hc =>
    obtain ⟨hk, hs, ok⟩ := hc
    injection h with h
    have e1 := voteB hs
    have e0 := numB e1
    have hw := rdVote_wf (rdNum (some b)).2
    rw [hk] at e0
    rw [h] at e0 ok hw
    injection e0 with e0
    exact ⟨by rw [e0]; simp [encVote], ok, hw, hk⟩
theorem only_header {b : List UInt8} {d : HeaderD} (h : decHeader b = some d) : b = encHeader d ∧ okHeader d = true ∧ d.wf ∧ (rdNum (some b)).1 = 2 := by
  unfold decHeader at h
  split at h
  case isFalse => cases h
  case isTrue hc =>
    obtain ⟨hk, hs, ok⟩ := hc
    injection h with h
    have e1 := headerB hs
    have e0 := numB e1
    have hw := rdHeader_wf (rdNum (some b)).2
    rw [hk] at e0
    rw [h] at e0 ok hw
    injection e0 with e0
    exact ⟨by rw [e0]; simp [encHeader], ok, hw, hk⟩
theorem only_packet {b : List UInt8} {d : PacketD} (h : decPacket b = some d) : b = encPacket d ∧ okPacket d = true ∧ d.wf ∧ (rdNum (some b)).1 = 6 := by
  unfold decPacket at h
  split at h
  case isFalse => cases h
  case isTrue hc =>
    obtain ⟨hk, hs, ok⟩ := hc
    injection h with h
    have e1 := packetB hs
    have e0 := numB e1
    have hw := rdPacket_wf (rdNum (some b)).2
    rw [hk] at e0
    rw [h] at e0 ok hw
    injection e0 with e0
    exact ⟨by rw [e0]; simp [encPacket], ok, hw, hk⟩
theorem only_proof {b : List UInt8} {d : ProofD} (h : decProof b = some d) : b = encProof d ∧ okProof d = true ∧ d.wf ∧ (rdNum (some b)).1 = 7 := by
  unfold decProof at h
  split at h
  case isFalse => cases h
  case isTrue hc =>
    obtain ⟨hk, hs, ok⟩ := hc
    rw [← rdProof_ok] at ok
    injection h with h
    have e1 := proofB hs
    have e0 := numB e1
    have hw := rdProof_wf (rdNum (some b)).2
    rw [hk] at e0
    rw [h] at e0 ok hw
    injection e0 with e0
    exact ⟨by rw [e0]; simp [encProof], ok, hw, hk⟩
theorem only_light {b : List UInt8} {d : LightD} (h : decLight b = some d) : b = encLight d ∧ okLight d = true ∧ d.wf ∧ (rdNum (some b)).1 = 5 := by
  unfold decLight at h
  split at h
  case isFalse => cases h
  case isTrue hc =>
    obtain ⟨hk, hks, hs, ok⟩ := hc
    injection h with h
    simp only [lKinds, Bool.and_eq_true, decide_eq_true_eq] at hks
    obtain ⟨k1, k2, k3, k4⟩ := hks
    have hw := rdLight_wf (rdNum (some b)).2
    have n4 := rdSet_len (rdNum (lS4 (rdNum (some b)).2)).2
    have n3 := rdSet_len (rdNum (lS3 (rdNum (some b)).2)).2
    have n2 := rdCommit_n (rdNum (lS2 (rdNum (some b)).2)).2
    have e7 := setB hs
    have e7' := numB e7
    have e6 := setB e7'
    have e6' := numB e6
    have e5 := commitB e6'
    have e5' := numB e5
    have e4 := headerB e5'
    have e4' := numB e4
    have e0 := numB e4'
    rw [hk, k1, k2, k3, k4] at e0
    injection e0 with e0
    rw [← h]
    refine ⟨?_, ?_, hw, hk⟩
    · refine e0.trans ?_
      simp only [encLight, encHeader, encCommit, encSet, rdLight, List.append_assoc, List.append_nil]
    · rw [Bool.and_eq_true] at ok
      simp only [okLight, okCommitN, okSet, Bool.and_eq_true, decide_eq_true_eq]
      exact ⟨ok.1, ⟨ok.2, n2⟩, n3, n4⟩

theorem ext_vote (v : VoteD) (hv : v.wf) (ok : okVote v = true) (r : List UInt8) (hr : r ≠ []) : decVote (encVote v ++ r) = none := by
  have e0 : encVote v ++ r = be64 1 ++ (textL v.chain ++ (be64 v.height ++ (be64 v.round ++ (be64 v.type ++ (v.block ++ (be64 v.key ++ (be64 v.r ++ (be64 v.s ++ r)))))))) := by simp [encVote]
  rw [e0]
  unfold decVote
  rw [rdNum_be 1 (by unfold i64R; omega)]
  simp only [rdVote_back v hv ok]
  rw [if_neg]
  intro h; injection h.2.1 with h; exact hr h
theorem ext_packet (p : PacketD) (hp : p.wf) (ok : okPacket p = true) (r : List UInt8) (hr : r ≠ []) : decPacket (encPacket p ++ r) = none := by
  obtain ⟨h1, h2⟩ := okPacket_len ok
  have e0 : encPacket p ++ r = be64 6 ++ (be64 p.seq ++ (textL p.from_ ++ (textL p.data ++ (be64 p.timeout ++ r)))) := by simp [encPacket]
  have e1 := rdText_be p.from_ (by omega)
  have e2 := rdText_be p.data (by omega)
  rw [e0]
  unfold decPacket
  rw [rdNum_be 6 (by unfold i64R; omega)]
  simp only [rdPacket, rdNum_be _ hp.seq, rdNum_be _ hp.timeout, e1, e2, str_back]
  rw [if_neg]
  intro h; injection h.2.1 with h; exact hr h
theorem ext_light (l : LightD) (hl : l.wf) (ok : okLight l = true) (r : List UInt8) (hr : r ≠ []) : decLight (encLight l ++ r) = none := by
  obtain ⟨h1, h2, h3, h4, h5⟩ := okLight_open ok
  have e0 : encLight l ++ r = be64 5 ++ (be64 2 ++ (textL l.header.chain ++ (be64 l.header.height ++ (be64 l.header.time ++ (l.header.last ++ (l.header.set ++ (l.header.next ++ (l.header.data ++ (l.header.app ++
      (be64 4 ++ (be64 l.commit.height ++ (be64 l.commit.round ++ (l.commit.block ++ (be64 l.commit.seals.length ++ (encSeals l.commit.seals ++
      (be64 3 ++ (be64 l.set.length ++ (encVals l.set ++ (be64 3 ++ (be64 l.next.length ++ (encVals l.next ++ r))))))))))))))))))))) := by simp [encLight, encHeader, encCommit, encSet]
  rw [e0]
  unfold decLight
  have r5 := rdNum_be 5 (by unfold i64R; omega)
  have r4 := rdNum_be 4 (by unfold i64R; omega)
  have r3 := rdNum_be 3 (by unfold i64R; omega)
  have r2 := rdNum_be 2 (by unfold i64R; omega)
  have a1 := rdHeader_back l.header hl.header h1
  have a2 := rdCommit_back l.commit hl.commit h3
  have a3 := rdSet_back l.set hl.set h4
  have a4 := rdSet_back l.next hl.next h5
  rw [r5]
  simp only [lKinds, rdLight, lS2, lS3, lS4, lS5, r2, r3, r4, a1, a2, a3, a4]
  rw [if_neg]
  intro h; injection h.2.2.1 with h; exact hr h
theorem rdPath_back (l : List (List UInt8)) (hl : ∀ v ∈ l, v.length = 32) (r : List UInt8) : ∀ k, k ≤ l.length → rdPath k (some (l.flatten ++ r)) = (l.take k, some ((l.drop k).flatten ++ r)) := by
  intro k
  induction k with
  | zero => intro _; rfl
  | succ k ih =>
    intro hk
    have hk' : k < l.length := by omega
    have hw := hl l[k] (List.getElem_mem _)
    have e1 : (l.drop k).flatten ++ r = l[k] ++ ((l.drop (k + 1)).flatten ++ r) := by
      rw [List.drop_eq_getElem_cons hk', List.flatten_cons, List.append_assoc]
    rw [rdPath, ih (by omega), e1]
    simp only [rdHash_be _ _ hw]
    rw [List.take_succ_eq_append_getElem hk']
theorem rdPart_back (x : PartD) (hx : x.wf) (h1 : x.path.length ≤ 16) (h2 : pBad x = false) (r : List UInt8) : rdPart (some (encPart x ++ r)) = (x, some r) := by
  have hk : x.key.size ≤ 4096 ∧ x.value.size ≤ 4096 := by
    unfold pBad at h2; simp only [Bool.or_eq_false_iff, decide_eq_false_iff_not] at h2; omega
  have e0 : encPart x ++ r = be64 x.index ++ (textL x.key ++ (textL x.value ++ (be64 x.path.length ++ (x.path.flatten ++ r)))) := by
    unfold encPart textW; rw [if_pos hk.1, if_pos hk.2]; simp only [List.append_assoc]
  have e3 : rdPath x.path.length (some (x.path.flatten ++ r)) = (x.path, some r) := by
    rw [rdPath_back _ hx.path r _ (Nat.le_refl _), List.take_of_length_le (Nat.le_refl _), List.drop_of_length_le (Nat.le_refl _)]; rfl
  rw [e0]
  simp only [rdPart, pS1, pS2, pS3, pS4, pN, rdNum_be _ hx.index, rdText_be _ hk.1, rdText_be _ hk.2, rdCount_be (x.path.length : Int) 16 (by omega) (by omega) (by unfold i64R; omega), Int.toNat_natCast, e3, str_back]
theorem rdParts_back (l : List PartD) (hl : ∀ x ∈ l, x.wf ∧ x.path.length ≤ 16 ∧ pBad x = false) (r : List UInt8) : ∀ k, k ≤ l.length → rdParts k (some (encParts l ++ r)) = (l.take k, some (encParts (l.drop k) ++ r)) := by
  intro k
  induction k with
  | zero => intro _; rfl
  | succ k ih =>
    intro hk
    have hk' : k < l.length := by omega
    obtain ⟨w1, w2, w3⟩ := hl l[k] (List.getElem_mem _)
    have e1 : encParts (l.drop k) ++ r = encPart l[k] ++ (encParts (l.drop (k + 1)) ++ r) := by
      rw [List.drop_eq_getElem_cons hk', show ∀ (x : PartD) (xs : List PartD), encParts (x :: xs) = encPart x ++ encParts xs from fun _ _ => rfl, List.append_assoc]
    rw [rdParts, ih (by omega), e1]
    simp only [rdPart_back _ w1 w2 w3]
    rw [List.take_succ_eq_append_getElem hk']
theorem okProof_eq2 (p : ProofD) : okProof p = true ↔ (p.parts.length ≤ 2 ∧ chkProof p = true ∧ ∀ x ∈ p.parts, x.path.length ≤ 16 ∧ pBad x = false) := by
  simp only [okProof, rightP, Bool.and_eq_true, decide_eq_true_eq, List.all_eq_true, Bool.not_eq_true', List.any_eq_false]
  constructor
  · rintro ⟨⟨h1, h2, h3⟩, h4⟩
    exact ⟨h1, h2, fun x hx => ⟨h3 x hx, by simpa using h4 x hx⟩⟩
  · rintro ⟨h1, h2, h3⟩
    exact ⟨⟨h1, h2, fun x hx => (h3 x hx).1⟩, fun x hx => by rw [(h3 x hx).2]; simp⟩
theorem ext_proof (p : ProofD) (hp : p.wf) (ok : okProof p = true) (r : List UInt8) (hr : r ≠ []) : decProof (encProof p ++ r) = none := by
  rw [okProof_eq2] at ok
  obtain ⟨o1, o2, o3⟩ := ok
  have e0 : encProof p ++ r = be64 7 ++ (be64 p.size ++ (be64 p.parts.length ++ (encParts p.parts ++ r))) := by simp [encProof]
  have e3 : rdParts p.parts.length (some (encParts p.parts ++ r)) = (p.parts, some r) := by
    rw [rdParts_back _ (fun x hx => ⟨hp.parts x hx, o3 x hx⟩) r _ (Nat.le_refl _), List.take_of_length_le (Nat.le_refl _), List.drop_of_length_le (Nat.le_refl _)]; rfl
  rw [e0]
  unfold decProof
  rw [rdNum_be 7 (by unfold i64R; omega)]
  simp only [rdProof, rdNum_be _ hp.size, rdCount_be (p.parts.length : Int) 2 (by omega) (by omega) (by unfold i64R; omega), Int.toNat_natCast, e3]
  rw [if_neg]
  intro h; injection h.2.1 with h; exact hr h

end Go.Proofs.YtaffpgafbjhahaaDoor
