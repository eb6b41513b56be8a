/- Walks: nuncioref02.Same, nunciolaw06.alive. Plain laws on bytes: numbers, texts, votes. No program's text is walked here. -/
import Derived.Test.YtcbkehnlgpcelaaGreatDoorDecPacket
import Derived.Test.YtcbkehnlgpcelaaGreatDoorDecVote
import Derived.Test.YtcbkehnlgpcelaaGreatDoorEq
import Derived.Test.YtcbkehnlgpcelaaGreatDoorRead
namespace Go.Proofs.YtcbkehnlgpcelaaGreatDoor
open Go.RowKit
set_option maxRecDepth 100000

theorem OwnB.rd {B : Nat} {v : Value} {l : List UInt8} {w : World} (h : OwnB B v l w) : RdB w v l := by
  obtain ⟨h1, ⟨rfl, h0⟩ | ⟨g, cap, cur, rfl, hg, hblk, hle, hcm, hcs, htk⟩⟩ := h
  · have : l = [] := List.length_eq_zero_iff.1 h0
    subst this
    exact ⟨none, 0, rfl, by simp, by unfold maxLen; omega, Or.inl ⟨rfl, rfl, rfl⟩⟩
  · refine ⟨_, cap, rfl, hle, hcm, Or.inr ⟨g, 0, rfl, Lib.lt_of_heap hblk, ?_⟩⟩
    intro j v hj
    rw [Nat.zero_add, Lib.cell_of_heap hblk, ← Array.getElem?_toList]
    have hlt : j < l.length := by have := (List.getElem?_eq_some_iff.1 hj).1; rwa [Lib.byteCells_length] at this
    rw [← htk, List.getElem?_take_of_lt (by omega)] at hj
    exact hj
theorem RdB.below {w w' : World} {v : Value} {l : List UInt8} (h : RdB w v l) (hb : Below w.heap.size w w') : RdB w' v l := h.grown (below_grown hb)

def alivePk : PacketD := { seq := 1, from_ := ⟨#[97]⟩, data := ⟨#[]⟩, timeout := 9 }
theorem alivePk_wf : alivePk.wf := ⟨⟨by decide, by decide⟩, by decide, by decide, ⟨by decide, by decide⟩⟩
theorem alivePk_ok : okPacket alivePk = true := by decide +kernel
theorem alivePk_dec : (decPacket (encPacket alivePk)).map PacketD.cells = some alivePk.cells := by kernel_rfl
theorem alivePk_len : (encPacket alivePk).length = 29 := by decide +kernel
theorem alivePk_7 : (encPacket alivePk)[7]? = some 6 := by decide +kernel

theorem foldl_be : ∀ (b : List UInt8) (n : Nat), b.foldl (fun n c => n * 256 + c.toNat) n = n * 256 ^ b.length + ofBe b
  | [], n => by simp [ofBe]
  | c :: b, n => by
    have h1 := foldl_be b (n * 256 + c.toNat)
    have h2 := foldl_be b (0 * 256 + c.toNat)
    unfold ofBe
    simp only [List.foldl_cons, List.length_cons]
    rw [h1, h2, Nat.pow_succ]
    rw [Nat.add_mul, Nat.mul_assoc, Nat.mul_comm 256 (256 ^ b.length), Nat.zero_mul, Nat.zero_add]
    omega
theorem ofBe_append (a b : List UInt8) : ofBe (a ++ b) = ofBe a * 256 ^ b.length + ofBe b := by
  unfold ofBe; rw [List.foldl_append]; exact foldl_be b _
theorem ofBe_be (k n : Nat) : ofBe (be k n) = n % 256 ^ k := by
  induction k with
  | zero => simp [be, ofBe, Nat.mod_one]
  | succ k ih =>
    have e : be (k + 1) n = [UInt8.ofNat (n / 256 ^ k)] ++ be k n := rfl
    rw [e, ofBe_append, be_length, ih]
    have h1 : ofBe [UInt8.ofNat (n / 256 ^ k)] = n / 256 ^ k % 256 := by simp [ofBe]
    rw [h1, Nat.mod_pow_succ, Nat.mul_comm]; omega
theorem be_mod (k n : Nat) : be k (n % 256 ^ k) = be k n := by
  suffices h : ∀ j, j ≤ k → be j (n % 256 ^ k) = be j n from h k (Nat.le_refl _)
  intro j hj
  induction j with
  | zero => rfl
  | succ j ih =>
    have e : ∀ m, be (j + 1) m = UInt8.ofNat (m / 256 ^ j) :: be j m := fun _ => rfl
    rw [e, e, ih (by omega)]
    congr 1
    have : n % 256 ^ k / 256 ^ j % 256 = n / 256 ^ j % 256 := by
      obtain ⟨d, rfl⟩ : ∃ d, k = j + (d + 1) := ⟨k - j - 1, by omega⟩
      rw [Nat.pow_add, Nat.mod_mul_right_div_self, Nat.pow_succ, Nat.mul_comm (256 ^ d) 256, Nat.mod_mul_right_mod]
    apply UInt8.toNat_inj.1
    simpa using this
theorem be_ofBe (l : List UInt8) : be l.length (ofBe l) = l := by
  induction l with
  | nil => rfl
  | cons c l ih =>
    have e : be (l.length + 1) (ofBe (c :: l)) = UInt8.ofNat (ofBe (c :: l) / 256 ^ l.length) :: be l.length (ofBe (c :: l)) := rfl
    have h1 : ofBe (c :: l) = c.toNat * 256 ^ l.length + ofBe l := by
      have := ofBe_append [c] l; simpa [ofBe] using this
    have hlt := ofBe_lt l
    have hpos : 0 < 256 ^ l.length := Nat.pow_pos (by decide)
    rw [List.length_cons, e]
    congr 1
    · rw [h1, Nat.mul_comm, Nat.mul_add_div hpos, Nat.div_eq_of_lt hlt, Nat.add_zero]; simp
    · rw [← be_mod, h1, Nat.mul_comm, Nat.mul_add_mod, be_mod]; exact ih

theorem ofBe_be64 (n : Int) : (ofBe (be64 n) : Int) = n % 18446744073709551616 := by
  unfold be64; rw [ofBe_be]; omega
theorem wrap64_be64 (n : Int) (h : i64R n) : wrap64 (ofBe (be64 n) : Nat) = n := by
  rw [ofBe_be64]; unfold wrap64; unfold i64R at h; omega
theorem be64_inj {a b : Int} (ha : i64R a) (hb : i64R b) (h : be64 a = be64 b) : a = b := by
  rw [← wrap64_be64 a ha, ← wrap64_be64 b hb, h]
theorem u64_be64 (n : Int) (h : u64R n) : (ofBe (be64 n) : Int) = n := by
  rw [ofBe_be64]; unfold u64R at h; omega
theorem be64u_inj {a b : Int} (ha : u64R a) (hb : u64R b) (h : be64 a = be64 b) : a = b := by
  rw [← u64_be64 a ha, ← u64_be64 b hb, h]
theorem ofBe_be16 (n : Nat) (h : n < 65536) : ofBe (be16 n) = n := by
  unfold be16; rw [ofBe_be]; omega

theorem app_inj {a b c d : List UInt8} (h : a ++ b = c ++ d) (hl : a.length = c.length) : a = c ∧ b = d := List.append_inj h hl
theorem textL_inj {s t : ByteArray} {a b : List UInt8} (hs : s.size ≤ 4096) (ht : t.size ≤ 4096) (h : textL s ++ a = textL t ++ b) : s = t ∧ a = b := by
  unfold textL at h
  rw [List.append_assoc, List.append_assoc] at h
  obtain ⟨h1, h2⟩ := app_inj h (by rw [be16_length, be16_length])
  have h3 : s.size = t.size := by rw [← ofBe_be16 s.size (by omega), ← ofBe_be16 t.size (by omega), h1]
  obtain ⟨h4, h5⟩ := app_inj h2 (by simpa using h3)
  refine ⟨?_, h5⟩
  obtain ⟨⟨x⟩⟩ := s
  obtain ⟨⟨y⟩⟩ := t
  congr 2

theorem encVote_inj {v w : VoteD} (hv : v.wf) (hw : w.wf) (ov : okVote v = true) (ow : okVote w = true) (h : encVote v = encVote w) : v = w := by
  have l1 := okVote_len ov; have l2 := okVote_len ow
  unfold encVote at h
  simp only [List.append_assoc] at h
  obtain ⟨_, h⟩ := app_inj h (by simp [be64_length])
  obtain ⟨e1, h⟩ := textL_inj (by omega) (by omega) h
  obtain ⟨e2, h⟩ := app_inj h (by simp [be64_length])
  obtain ⟨e3, h⟩ := app_inj h (by simp [be64_length])
  obtain ⟨e4, h⟩ := app_inj h (by simp [be64_length])
  obtain ⟨e5, h⟩ := app_inj h (by rw [hv.block, hw.block])
  obtain ⟨e6, h⟩ := app_inj h (by simp [be64_length])
  obtain ⟨e7, e8⟩ := app_inj h (by simp [be64_length])
  have e2 := be64_inj hv.height hw.height e2
  have e3 := be64_inj hv.round hw.round e3
  have e4 := be64_inj hv.type hw.type e4
  have e6 := be64u_inj hv.key hw.key e6
  have e7 := be64u_inj hv.r hw.r e7
  have e8 := be64u_inj hv.s hw.s e8
  cases v; cases w; simp_all

/-- a vote's cells, by their kinds -/
def voteK : List Value := [.string ⟨#[]⟩, .int .i64 0, .int .i64 0, .int .i64 0] ++ List.replicate 32 (.int .u8 0) ++ [.int .u64 0, .int .u64 0, .int .u64 0]
theorem vote_flat : flat Tryz.prog 20 40 = some voteK := by kernel_rfl
theorem VoteD.fits (v : VoteD) (h : v.wf) : Fits voteK v.cells = true := by
  have hb := Fits.bytes v.block
  rw [h.block] at hb
  exact Fits.append (Fits.append rfl hb) rfl
theorem ba_eq {a b : ByteArray} (h : a.toList = b.toList) : a = b := by
  rw [ByteArray.toList_eq, ByteArray.toList_eq] at h
  obtain ⟨⟨x⟩⟩ := a
  obtain ⟨⟨y⟩⟩ := b
  exact congrArg (fun l => (⟨⟨l⟩⟩ : ByteArray)) h
theorem VoteD.eq_iff (v w : VoteD) (hv : v.wf) (hw : w.wf) : VEq v.cells w.cells = true ↔ v = w := by
  unfold VoteD.cells
  rw [VEq.append (by simp [Lib.byteCells_length, hv.block, hw.block]), VEq.append (by simp), VEq.bytes]
  simp only [VEq, KEq, Bool.and_true, Bool.and_eq_true, beq_iff_eq]
  constructor
  · rintro ⟨⟨⟨h1, h2, h3, h4⟩, h5⟩, h6, h7, h8⟩
    have h1 := ba_eq h1
    cases v; cases w; simp_all
  · rintro rfl; simp

/-- the law of FormSigns -/
theorem signs_law (v w : VoteD) (hv : v.wf) (hw : w.wf) (ov : okVote v = true) (ow : okVote w = true) :
    ((encVote v.bare == encVote w.bare) == VEq ({ v with key := w.key, r := w.r, s := w.s } : VoteD).cells w.cells) = true := by
  have hv' : ({ v with key := w.key, r := w.r, s := w.s } : VoteD).wf := ⟨hv.chain, hv.height, hv.round, hv.type, hv.block, hw.key, hw.r, hw.s⟩
  rw [beq_iff_eq, Bool.eq_iff_iff, beq_iff_eq, VoteD.eq_iff _ _ hv' hw]
  constructor
  · intro h
    have := encVote_inj (VoteD.bare_wf hv) (VoteD.bare_wf hw) ov ow h
    simp only [VoteD.bare, VoteD.mk.injEq] at this
    cases v; cases w; simp_all
  · intro h
    have : v.bare = w.bare := by rw [← h]; rfl
    rw [this]

def kHash : List Value := List.replicate 32 (.int .u8 0)
theorem hash_flat : flat Tryz.prog 20 26 = some kHash := by kernel_rfl
theorem hash_fits (l : List UInt8) (h : l.length = 32) : Fits kHash (Lib.byteCells l) = true := by
  have := Fits.bytes l; rw [h] at this; exact this

end Go.Proofs.YtcbkehnlgpcelaaGreatDoor
