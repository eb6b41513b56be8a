/- A light client's step, plainly. A light client's step: what follows from its plain law. Light blocks of one validator, plainly: they are sound, one may be trusted if another one is. -/
import Derived.Test.YtbhghlendbcejaaGreatDoorCk
import Derived.Test.YtbhghlendbcejaaGreatDoorFx
import Derived.Test.YtbhghlendbcejaaGreatDoorRJoin
import Derived.Test.YtbhghlendbcejaaGreatDoorHsh
namespace Go.Proofs.YtbhghlendbcejaaGreatDoor
open Go.RowKit
set_option maxRecDepth 100000

/-! options; floats, as words -/
structure OptD where
  level : Nat
  period : Nat
  drift : Nat
def OptD.cells (o : OptD) : List Value := [.float .f64 o.level, .float .f64 o.period, .float .f64 o.drift]
structure OptD.wf (o : OptD) : Prop where
  level : o.level < 18446744073709551616
  period : o.period < 18446744073709551616
  drift : o.drift < 18446744073709551616
def ordF (x y : Nat) : Option Ordering := FloatKind.f64.format.order x y
def nanF (x : Nat) : Bool := ordF x x != some .eq
def geF (x y : Nat) : Bool := ordF x y == some .gt || ordF x y == some .eq
def leF (x y : Nat) : Bool := ordF x y == some .lt || ordF x y == some .eq
def gtF (x y : Nat) : Bool := ordF x y == some .gt
def ltF (x y : Nat) : Bool := ordF x y == some .lt
def subF (x y : Nat) : Nat := (floatBits .sub .f64 x y).getD 0
def i2f (n : Int) : Nat := floatOfInt .f64 n
/-- 1/3, and 1 -/
def rightO (o : OptD) : Bool := geF o.level 4599676419421066581 && leF o.level 4607182418800017408 && gtF o.period 0 && geF o.drift 0
/-- neither a NaN nor an infinity -/
def finB (x : Nat) : Bool := decide (x % 9223372036854775808 < 9218868437227405312)
def expF (t : Int) (now : Nat) (o : OptD) : Bool := nanF now || !ltF (subF now (i2f t)) o.period
/-- is a part more than a share? -/
def excL (part total : Int) (x : Nat) : Bool := decide (total.toNat * (4503599627370496 + x % 4503599627370496) < part.toNat * 2 ^ (1075 - x / 4503599627370496))

/-! light blocks -/
def hdrHash (d : HeaderD) : List UInt8 := blake (2 :: encHeader d)
def setHash (ds : List ValD) : List UInt8 := blake (3 :: encSet ds)
def soundL (chain : ByteArray) (l : LightD) : Int :=
  if okHeader l.header = false then 61 else if okCommitN l.commit = false then 61 else
  if l.header.chain ≠ chain then 152 else
  if rightL l.set = false then 71 else if rightL l.next = false then 71 else
  if setHash l.set ≠ l.header.set ∨ setHash l.next ≠ l.header.next then 157 else
  if l.commit.height ≠ l.header.height ∨ l.commit.block ≠ hdrHash l.header then 158 else checkL l.set chain l.commit
def nextL (a b : LightD) : Int :=
  if b.header.set ≠ a.header.next then 157 else if okHeader a.header = false ∨ b.header.last ≠ hdrHash a.header then 153 else 0
def vouchL (a b : LightD) (o : OptD) : Int :=
  if (sharedL a.next a.header.chain b.commit).2 ≠ 0 then 159 else if excL (sharedL a.next a.header.chain b.commit).1 (totalL a.next) o.level = false then 159 else 0
def vstepL (a b : LightD) (now : Nat) (o : OptD) : Int :=
  if rightO o = false then 151 else if finB now = false then 154 else if expF a.header.time now o = true then 155 else
  if b.header.height ≤ a.header.height ∨ b.header.time ≤ a.header.time then 153 else
  if gtF (subF (i2f b.header.time) now) o.drift = true then 156 else
  if soundL a.header.chain b ≠ 0 then soundL a.header.chain b else
  if b.header.height - 1 = a.header.height then nextL a b else vouchL a b o

/-! facts -/
theorem cmp_lt {a b : Int} : (compare a b == Ordering.lt) = decide (a < b) := by
  rw [cmp_of]
  by_cases h : a < b
  · rw [if_pos h, decide_eq_true h]; rfl
  · rw [if_neg h, decide_eq_false h]; split <;> rfl
theorem cmp_gt {a b : Int} : (compare a b == Ordering.gt) = decide (b < a) := by
  rw [cmp_of]
  by_cases h : a < b
  · rw [if_pos h, decide_eq_false (by omega)]; rfl
  · rw [if_neg h]
    by_cases h2 : a = b
    · rw [if_pos h2, decide_eq_false (by omega)]; rfl
    · rw [if_neg h2, decide_eq_true (by omega)]; rfl
theorem cmp_eq {a b : Int} : (compare a b == Ordering.eq) = decide (a = b) := by
  rw [cmp_of]
  by_cases h : a < b
  · rw [if_pos h, decide_eq_false (by omega)]; rfl
  · rw [if_neg h]
    by_cases h2 : a = b
    · rw [if_pos h2, decide_eq_true h2]; rfl
    · rw [if_neg h2, decide_eq_false h2]; rfl
section
variable {x y : Nat} (hx : x < 18446744073709551616) (hy : y < 18446744073709551616)
theorem nanF_iff (hx : x < 18446744073709551616) : nanF x = true ↔ nanW x := by
  unfold nanF ordF
  by_cases h : nanW x
  · rw [ord_nan_l h]; simp [h]
  · rw [show FloatKind.f64.format.order x x = _ from ord_key hx hx h h]
    have : compare (keyF x) (keyF x) = Ordering.eq := by rw [cmp_of, if_neg (by omega), if_pos rfl]
    rw [this]; simp [h]
theorem ltF_iff (hx : x < 18446744073709551616) (hy : y < 18446744073709551616) : ltF x y = true ↔ ¬ nanW x ∧ ¬ nanW y ∧ keyF x < keyF y := by
  unfold ltF ordF
  by_cases h : nanW x
  · rw [ord_nan_l h]; simp [h]
  by_cases h2 : nanW y
  · rw [ord_nan_r h2]; simp [h2]
  rw [show FloatKind.f64.format.order x y = _ from ord_key hx hy h h2]
  have := @cmp_lt (keyF x) (keyF y)
  simp only [Option.some_beq_some, this, decide_eq_true_eq, h, h2, not_false_eq_true, true_and]
theorem gtF_iff (hx : x < 18446744073709551616) (hy : y < 18446744073709551616) : gtF x y = true ↔ ¬ nanW x ∧ ¬ nanW y ∧ keyF y < keyF x := by
  unfold gtF ordF
  by_cases h : nanW x
  · rw [ord_nan_l h]; simp [h]
  by_cases h2 : nanW y
  · rw [ord_nan_r h2]; simp [h2]
  rw [show FloatKind.f64.format.order x y = _ from ord_key hx hy h h2]
  have := @cmp_gt (keyF x) (keyF y)
  simp only [Option.some_beq_some, this, decide_eq_true_eq, h, h2, not_false_eq_true, true_and]
theorem leF_iff (hx : x < 18446744073709551616) (hy : y < 18446744073709551616) : leF x y = true ↔ ¬ nanW x ∧ ¬ nanW y ∧ keyF x ≤ keyF y := by
  unfold leF ordF
  by_cases h : nanW x
  · rw [ord_nan_l h]; simp [h]
  by_cases h2 : nanW y
  · rw [ord_nan_r h2]; simp [h2]
  rw [show FloatKind.f64.format.order x y = _ from ord_key hx hy h h2]
  have h1 := @cmp_lt (keyF x) (keyF y); have h3 := @cmp_eq (keyF x) (keyF y)
  simp only [Option.some_beq_some, h1, h3, Bool.or_eq_true, decide_eq_true_eq, h, h2, not_false_eq_true, true_and]
  omega
theorem geF_iff (hx : x < 18446744073709551616) (hy : y < 18446744073709551616) : geF x y = true ↔ ¬ nanW x ∧ ¬ nanW y ∧ keyF y ≤ keyF x := by
  unfold geF ordF
  by_cases h : nanW x
  · rw [ord_nan_l h]; simp [h]
  by_cases h2 : nanW y
  · rw [ord_nan_r h2]; simp [h2]
  rw [show FloatKind.f64.format.order x y = _ from ord_key hx hy h h2]
  have h1 := @cmp_gt (keyF x) (keyF y); have h3 := @cmp_eq (keyF x) (keyF y)
  simp only [Option.some_beq_some, h1, h3, Bool.or_eq_true, decide_eq_true_eq, h, h2, not_false_eq_true, true_and]
  omega
end
theorem finB_iff {x : Nat} (hx : x < 18446744073709551616) : finB x = true ↔ finF x := by
  unfold finB finF
  rw [decide_eq_true_eq]
  omega
theorem fin_not_nan {x : Nat} (h : finF x) : ¬ nanW x := by unfold finF at h; unfold nanW; omega
/-- options that are right: the level's word lies between those of 1/3 and of 1 -/
theorem rightO_iff {o : OptD} (h : o.wf) : rightO o = true ↔ (4599676419421066581 ≤ o.level ∧ o.level ≤ 4607182418800017408) ∧ (¬ nanW o.period ∧ 0 < keyF o.period) ∧ (¬ nanW o.drift ∧ 0 ≤ keyF o.drift) := by
  unfold rightO
  simp only [Bool.and_eq_true]
  rw [geF_iff h.level (by decide), leF_iff h.level (by decide), gtF_iff h.period (by decide), geF_iff h.drift (by decide)]
  have k1 : keyF 4599676419421066581 = 4599676419421066581 := by decide
  have k2 : keyF 4607182418800017408 = 4607182418800017408 := by decide
  have k3 : keyF 0 = 0 := by decide
  have n1 : ¬ nanW 4599676419421066581 := by unfold nanW; omega
  have n2 : ¬ nanW 4607182418800017408 := by unfold nanW; omega
  have n3 : ¬ nanW 0 := by unfold nanW; omega
  rw [k1, k2, k3]
  have hl := h.level
  have e : (¬ nanW o.level ∧ (4599676419421066581 : Int) ≤ keyF o.level) ∧ (¬ nanW o.level ∧ keyF o.level ≤ 4607182418800017408) ↔ (4599676419421066581 ≤ o.level ∧ o.level ≤ 4607182418800017408) := by
    unfold nanW keyF
    split <;> omega
  simp only [n1, n2, n3, not_false_eq_true, true_and]
  rw [← e]
  simp only [and_assoc]
/-- a later time of the clock, an earlier one of the block: expired all the more -/
theorem sub_le {a b c d : Nat} (ha : finF a) (hb : finF b) (hc : finF c) (hd : finF d) (h1 : keyF a ≤ keyF c) (h2 : keyF d ≤ keyF b) : keyF (subF a b) ≤ keyF (subF c d) := by
  obtain ⟨x, e1, _, _, k1⟩ := sub_fin ha hb
  obtain ⟨y, e2, _, _, k2⟩ := sub_fin hc hd
  unfold subF
  rw [e1, e2]
  show keyF x ≤ keyF y
  rw [k1, k2]
  have := valF_key_le.2 h1; have := valF_key_le.2 h2
  exact keyV_mono (by omega)
theorem sub_num {a b : Nat} (ha : finF a) (hb : finF b) : subF a b < 18446744073709551616 ∧ ¬ nanW (subF a b) := by
  obtain ⟨x, e1, h1, h2, _⟩ := sub_fin ha hb
  unfold subF
  rw [e1]
  exact ⟨h1, h2⟩

structure SoundOk (chain : ByteArray) (l : LightD) : Prop where
  header : okHeader l.header = true
  commit : okCommitN l.commit = true
  name : l.header.chain = chain
  set : rightL l.set = true
  next : rightL l.next = true
  hset : setHash l.set = l.header.set
  hnext : setHash l.next = l.header.next
  height : l.commit.height = l.header.height
  block : l.commit.block = hdrHash l.header
  check : checkL l.set chain l.commit = 0
theorem sound_iff {chain : ByteArray} {l : LightD} : soundL chain l = 0 ↔ SoundOk chain l := by
  unfold soundL
  constructor
  · intro h
    by_cases h1 : okHeader l.header = false
    · rw [if_pos h1] at h; exact absurd h (by decide)
    rw [if_neg h1] at h
    by_cases h2 : okCommitN l.commit = false
    · rw [if_pos h2] at h; exact absurd h (by decide)
    rw [if_neg h2] at h
    by_cases h3 : l.header.chain ≠ chain
    · rw [if_pos h3] at h; exact absurd h (by decide)
    rw [if_neg h3] at h
    by_cases h4 : rightL l.set = false
    · rw [if_pos h4] at h; exact absurd h (by decide)
    rw [if_neg h4] at h
    by_cases h5 : rightL l.next = false
    · rw [if_pos h5] at h; exact absurd h (by decide)
    rw [if_neg h5] at h
    by_cases h6 : setHash l.set ≠ l.header.set ∨ setHash l.next ≠ l.header.next
    · rw [if_pos h6] at h; exact absurd h (by decide)
    rw [if_neg h6] at h
    by_cases h7 : l.commit.height ≠ l.header.height ∨ l.commit.block ≠ hdrHash l.header
    · rw [if_pos h7] at h; exact absurd h (by decide)
    rw [if_neg h7] at h
    simp only [not_or, Classical.not_not] at h6 h7
    exact ⟨by simpa using h1, by simpa using h2, by simpa using h3, by simpa using h4, by simpa using h5, h6.1, h6.2, h7.1, h7.2, h⟩
  · rintro ⟨h1, h2, h3, h4, h5, h6, h7, h8, h9, h10⟩
    rw [if_neg (by simp [h1]), if_neg (by simp [h2]), if_neg (by simp [h3]), if_neg (by simp [h4]), if_neg (by simp [h5]), if_neg (by simp [h6, h7]), if_neg (by simp [h8, h9])]
    exact h10
structure StepOk (a b : LightD) (now : Nat) (o : OptD) : Prop where
  right : rightO o = true
  fin : finB now = true
  fresh : expF a.header.time now o = false
  height : a.header.height < b.header.height
  time : a.header.time < b.header.time
  near : gtF (subF (i2f b.header.time) now) o.drift = false
  sound : soundL a.header.chain b = 0
  trust : (b.header.height - 1 = a.header.height ∧ nextL a b = 0) ∨ (b.header.height - 1 ≠ a.header.height ∧ vouchL a b o = 0)
theorem step_iff {a b : LightD} {now : Nat} {o : OptD} : vstepL a b now o = 0 ↔ StepOk a b now o := by
  unfold vstepL
  constructor
  · intro h
    by_cases h1 : rightO o = false
    · rw [if_pos h1] at h; exact absurd h (by decide)
    rw [if_neg h1] at h
    by_cases h2 : finB now = false
    · rw [if_pos h2] at h; exact absurd h (by decide)
    rw [if_neg h2] at h
    by_cases h3 : expF a.header.time now o = true
    · rw [if_pos h3] at h; exact absurd h (by decide)
    rw [if_neg h3] at h
    by_cases h4 : b.header.height ≤ a.header.height ∨ b.header.time ≤ a.header.time
    · rw [if_pos h4] at h; exact absurd h (by decide)
    rw [if_neg h4] at h
    by_cases h5 : gtF (subF (i2f b.header.time) now) o.drift = true
    · rw [if_pos h5] at h; exact absurd h (by decide)
    rw [if_neg h5] at h
    by_cases h6 : soundL a.header.chain b ≠ 0
    · rw [if_pos h6] at h; exact absurd h h6
    rw [if_neg h6] at h
    refine ⟨by simpa using h1, by simpa using h2, by simpa using h3, by omega, by omega, by simpa using h5, by simpa using h6, ?_⟩
    by_cases h7 : b.header.height - 1 = a.header.height
    · rw [if_pos h7] at h; exact .inl ⟨h7, h⟩
    · rw [if_neg h7] at h; exact .inr ⟨h7, h⟩
  · rintro ⟨h1, h2, h3, h4, h5, h6, h7, h8⟩
    rw [if_neg (by simp [h1]), if_neg (by simp [h2]), if_neg (by simp [h3]), if_neg (by omega), if_neg (by simp [h6]), if_neg (by simp [h7])]
    rcases h8 with ⟨e, h⟩ | ⟨e, h⟩
    · rw [if_pos e]; exact h
    · rw [if_neg e]; exact h
theorem exp_iff {t : Int} {now : Nat} {o : OptD} (hn : now < 18446744073709551616) (hf : finF now) (ht : i64R t) (ho : o.wf) : expF t now o = false ↔ ¬ nanW o.period ∧ keyF (subF now (i2f t)) < keyF o.period := by
  unfold expF
  have h1 : nanF now = false := by
    cases h : nanF now with
    | false => rfl
    | true => exact absurd ((nanF_iff hn).1 h) (fin_not_nan hf)
  obtain ⟨q1, q2⟩ := sub_num hf (i2f_fin t ⟨ht.1, by have := ht.2; omega⟩).1
  rw [h1, Bool.false_or, Bool.not_eq_false', ltF_iff (show subF now (i2f t) < _ from q1) ho.period]
  exact ⟨fun h => h.2, fun h => ⟨q2, h⟩⟩
/-- an earlier clock, a later block, a longer period -/
theorem exp_mono {t u : Int} {m n : Nat} {o p : OptD} (hm : m < 18446744073709551616) (hn : n < 18446744073709551616) (fm : finF m) (fn : finF n) (ht : i64R t) (hu : i64R u) (ho : o.wf) (hp : p.wf)
    (h : expF t n o = false) (hmn : keyF m ≤ keyF n) (htu : t ≤ u) (hop : keyF o.period ≤ keyF p.period) (hpn : ¬ nanW p.period) : expF u m p = false := by
  rw [exp_iff hm fm hu hp]
  have h2 := (exp_iff hn fn ht ho).1 h
  refine ⟨hpn, ?_⟩
  have bt : -9223372036854775808 ≤ t ∧ t ≤ 9223372036854775807 := ⟨ht.1, by have := ht.2; omega⟩
  have bu : -9223372036854775808 ≤ u ∧ u ≤ 9223372036854775807 := ⟨hu.1, by have := hu.2; omega⟩
  have := sub_le fm (i2f_fin u bu).1 fn (i2f_fin t bt).1 hmn (valF_key_le.1 (i2f_le bt bu htu))
  exact Int.lt_of_le_of_lt this (Int.lt_of_lt_of_le h2.2 hop)
theorem exc_mono {p t : Int} {x y : Nat} (hyx : y ≤ x) (hy : 4503599627370496 ≤ y) (hx : x ≤ 4607182418800017408) (h : excL p t x = true) : excL p t y = true := by
  unfold excL at h ⊢
  rw [decide_eq_true_eq] at h ⊢
  rcases Nat.eq_or_lt_of_le hyx with e | hlt
  · rw [e]; exact h
  obtain ⟨h1, h2⟩ := val_lt hlt
  unfold plF at h1
  unfold plF mgF at h2
  rw [if_neg (by omega), if_neg (by omega)] at h1
  rw [if_neg (by omega), if_neg (by omega), if_neg (by omega), if_neg (by omega)] at h2
  have d1 : 1 ≤ y / 4503599627370496 := by omega
  have d2 : x / 4503599627370496 ≤ 1023 := by omega
  obtain ⟨E, hE⟩ : ∃ E, x / 4503599627370496 = E := ⟨_, rfl⟩
  obtain ⟨F, hF⟩ : ∃ F, y / 4503599627370496 = F := ⟨_, rfl⟩
  rw [hE] at h h1 h2 d2
  rw [hF] at h1 h2 d1 ⊢
  have e1 : E - 1 - (F - 1) = E - F := by omega
  rw [e1] at h2
  have e2 : 2 ^ (1075 - F) = 2 ^ (1075 - E) * 2 ^ (E - F) := by rw [← Nat.pow_add]; congr 1; omega
  rw [e2]
  generalize 2 ^ (1075 - E) = A at *
  have hp : 0 < 2 ^ (E - F) := Nat.two_pow_pos _
  generalize 2 ^ (E - F) = C at *
  generalize 4503599627370496 + x % 4503599627370496 = mx at *
  generalize 4503599627370496 + y % 4503599627370496 = my at *
  have s1 : t.toNat * my ≤ t.toNat * (mx * C) := Nat.mul_le_mul_left _ (Nat.le_of_lt h2)
  have s2 : t.toNat * mx * C < p.toNat * A * C := Nat.mul_lt_mul_of_pos_right h hp
  rw [Nat.mul_assoc] at s2
  rw [← Nat.mul_assoc]
  omega
/-- strange clocks -/
theorem clocks {a b : LightD} {m n : Nat} {o p : OptD} (wa : a.header.wf) (wb : b.header.wf) (hm : m < 18446744073709551616) (hn : n < 18446744073709551616) (ho : o.wf) (hp : p.wf) (h : vstepL a b n o = 0)
    (hr : rightO p = true) (hl : leF p.level o.level = true) (hpe : geF p.period o.period = true) (hmn : leF m n = true) (hf : finB m = true) (near : leF (subF (i2f b.header.time) m) p.drift = true) : vstepL a b m p = 0 := by
  rw [step_iff] at h ⊢
  have fm := (finB_iff hm).1 hf; have fn := (finB_iff hn).1 h.fin
  have r1 := (rightO_iff ho).1 h.right; have r2 := (rightO_iff hp).1 hr
  have l1 := (leF_iff hp.level ho.level).1 hl; have l2 := (geF_iff hp.period ho.period).1 hpe; have l3 := (leF_iff hm hn).1 hmn
  have bt : -9223372036854775808 ≤ b.header.time ∧ b.header.time ≤ 9223372036854775807 := ⟨wb.time.1, by have := wb.time.2; omega⟩
  obtain ⟨q1, q2⟩ := sub_num (i2f_fin b.header.time bt).1 fm
  have l4 := (leF_iff (show subF (i2f b.header.time) m < _ from q1) hp.drift).1 near
  refine ⟨hr, hf, exp_mono hm hn fm fn wa.time wa.time ho hp h.fresh l3.2.2 (Int.le_refl _) l2.2.2 l2.1, h.height, h.time, ?_, h.sound, ?_⟩
  · cases hg : gtF (subF (i2f b.header.time) m) p.drift with
    | false => rfl
    | true =>
      have := (gtF_iff (show subF (i2f b.header.time) m < _ from q1) hp.drift).1 hg
      omega
  · rcases h.trust with h | ⟨e, hv⟩
    · exact .inl h
    · refine .inr ⟨e, ?_⟩
      unfold vouchL at hv ⊢
      by_cases h1 : (sharedL a.next a.header.chain b.commit).2 ≠ 0
      · rw [if_pos h1] at hv; exact absurd hv (by decide)
      rw [if_neg h1] at hv ⊢
      by_cases h2 : excL (sharedL a.next a.header.chain b.commit).1 (totalL a.next) o.level = false
      · rw [if_pos h2] at hv; exact absurd hv (by decide)
      have hxy : p.level ≤ o.level := by
        have k := l1.2.2
        unfold keyF at k
        split at k <;> split at k <;> omega
      rw [if_neg (by rw [exc_mono hxy (by omega) r1.1.2 (by simpa using h2)]; simp)]
/-- a step is never back -/
theorem step_back {a b : LightD} {n : Nat} {o : OptD} (wa : a.header.wf) (wb : b.header.wf) (hn : n < 18446744073709551616) (ho : o.wf) (h : vstepL a b n o = 0) : vstepL b a n o = 153 := by
  have h := step_iff.1 h
  have fn := (finB_iff hn).1 h.fin
  have r1 := (rightO_iff ho).1 h.right
  have he := exp_mono hn hn fn fn wa.time wb.time ho ho h.fresh (Int.le_refl _) (Int.le_of_lt h.time) (Int.le_refl _) r1.2.1.1
  unfold vstepL
  rw [if_neg (by simp [h.right]), if_neg (by simp [h.fin]), if_neg (by simp [he]), if_pos (.inl (Int.le_of_lt h.height))]
theorem step_self (a : LightD) (n : Nat) (o : OptD) : vstepL a a n o ≠ 0 := by
  intro h
  have := (step_iff.1 h).height
  omega
/-- another header with the commit that was -/
theorem step_bent {a b : LightD} {n : Nat} {o : OptD} {h : HeaderD} (hb : b.commit.block ≠ hdrHash h ∨ okHeader h = false) : vstepL a { b with header := h } n o ≠ 0 := by
  intro e
  have s := sound_iff.1 (step_iff.1 e).sound
  rcases hb with hb | hb
  · exact hb s.block
  · have := s.header; rw [hb] at this; cases this
theorem step_bare {a b : LightD} {n : Nat} {o : OptD} (hb : b.commit.seals = []) : vstepL a b n o ≠ 0 := by
  intro e
  have s := sound_iff.1 (step_iff.1 e).sound
  have c := check_iff.1 s.check
  have ht := c.2.2.2.2.1
  rw [hb] at ht
  have hp : 0 ≤ totalL b.set := by
    have := powB_true (n := totalL b.set) (by unfold twoB at ht; simp only [Bool.and_eq_true] at ht; exact ht.2.1)
    exact this.1
  unfold twoB at ht
  simp only [Bool.and_eq_true, decide_eq_true_eq] at ht
  have := ht.2.2
  simp [powS] at this
  omega
/-- of a block of the next height no level matters -/
theorem step_next {a b : LightD} {n : Nat} {o p : OptD} (hn : b.header.height - 1 = a.header.height ∨ b.header.height ≤ a.header.height) (h1 : rightO o = true) (h2 : rightO p = true) (hp : o.period = p.period) (hd : o.drift = p.drift) : vstepL a b n o = vstepL a b n p := by
  unfold vstepL expF
  rw [h1, h2, hp, hd]
  rcases hn with hn | hn
  · simp only [if_pos hn]
  · simp only [hn, true_or, if_true]

def key5 : Nat := pw 37 5
def set5 : List ValD := [⟨(key5 : Int), 2⟩]
def z32 : List UInt8 := List.replicate 32 0
def hdr5 (h t : Int) (last : List UInt8) : HeaderD := ⟨⟨#[97]⟩, h, t, last, setHash set5, setHash set5, z32, z32⟩
def vote5 (h : Int) (b : List UInt8) : VoteD := ⟨⟨#[97]⟩, h, 0, 2, b, 0, 0, 0⟩
def seal5 (h : Int) (b : List UInt8) : SealD := ⟨(key5 : Int), (sgR 5 (encVote (vote5 h b).bare) : Nat), (sgS 5 (encVote (vote5 h b).bare) : Nat)⟩
def oneL (h t : Int) (last : List UInt8) : LightD := ⟨hdr5 h t last, ⟨h, 0, hdrHash (hdr5 h t last), [seal5 h (hdrHash (hdr5 h t last))]⟩, set5, set5⟩
theorem i64_0 : i64R 0 := by unfold i64R; decide
theorem ch5 : (⟨#[97]⟩ : ByteArray).size ≤ maxLen := by decide
theorem key5_lt : key5 < pP := Nat.mod_lt _ (by decide)
theorem pow5 : powL key5 set5 = 2 := by unfold powL set5; simp
theorem right5 : rightL set5 = true := by
  unfold rightL sumL set5 sumGo sumGo
  simp [rise]
theorem total5 : totalL set5 = 2 := by
  unfold totalL
  rw [if_pos right5]
  unfold sumL set5 sumGo sumGo
  simp
theorem hdrHash_len (d : HeaderD) : (hdrHash d).length = 32 := blake_len _
theorem setHash_len (ds : List ValD) : (setHash ds).length = 32 := blake_len _
theorem hdr5_wf {h t : Int} {last : List UInt8} (hh : i64R h) (ht : i64R t) (hl : last.length = 32) : (hdr5 h t last).wf := ⟨ch5, hh, ht, hl, setHash_len _, setHash_len _, rfl, rfl⟩
theorem vote5_wf {h : Int} {b : List UInt8} (hh : i64R h) (hb : b.length = 32) : (vote5 h b).wf := ⟨ch5, hh, i64_0, i64_2, hb, u64_0, u64_0, u64_0⟩
theorem name5 : nameL (⟨#[97]⟩ : ByteArray).data.toList = true := by decide +kernel
theorem vote5_ok {h : Int} {b : List UInt8} (hh : 1 ≤ h ∧ h ≤ 1099511627776) : okVote (vote5 h b) = true := by
  unfold okVote vote5 inR
  dsimp only
  rw [name5]
  simp [hh]
theorem hdr5_ok {h t : Int} {last : List UInt8} (hh : 1 ≤ h ∧ h ≤ 1099511627776) (ht : 0 ≤ t ∧ t ≤ 1099511627776) : okHeader (hdr5 h t last) = true := by
  unfold okHeader hdr5 inR
  dsimp only
  rw [name5]
  simp [hh, ht]
theorem seal5_signed {h : Int} {b : List UInt8} (hh : 1 ≤ h ∧ h ≤ 1099511627776) (c : CommitD) (hc : c.height = h ∧ c.round = 0 ∧ c.block = b) : signedB (stand ⟨#[97]⟩ c (seal5 h b)) = true := by
  have := signed_sign 5 (vote5 h b) (by decide +kernel) (vote5_ok hh)
  have e : stand ⟨#[97]⟩ c (seal5 h b) = (vote5 h b).by (pw 37 5) (sgR 5 (encVote (vote5 h b).bare)) (sgS 5 (encVote (vote5 h b).bare)) := by
    unfold stand standB VoteD.put seal5 VoteD.by vote5 key5
    rw [hc.1, hc.2.1, hc.2.2]
  rw [e]; exact this
theorem one_sound {h t : Int} {last : List UInt8} (hh : 1 ≤ h ∧ h ≤ 1099511627776) (ht : 0 ≤ t ∧ t ≤ 1099511627776) (hz : hdrHash (hdr5 h t last) ≠ z32) : soundL ⟨#[97]⟩ (oneL h t last) = 0 := by
  rw [sound_iff]
  refine ⟨hdr5_ok hh ht, ?_, rfl, right5, right5, rfl, rfl, rfl, rfl, ?_⟩
  · unfold okCommitN okCommit oneL inR
    dsimp only
    simp [hh]
  · rw [check_iff]
    refine ⟨right5, ?_, ?_, ?_, ?_, ?_⟩
    · unfold isBlk oneL
      dsimp only
      have e : (hdrHash (hdr5 h t last) == List.replicate 32 (0 : UInt8)) = false := by rw [beq_eq_false_iff_ne]; exact hz
      rw [e]; rfl
    · unfold RiseP oneL; simp
    · intro s hs
      have : s = seal5 h (hdrHash (hdr5 h t last)) := by unfold oneL at hs; simpa using hs
      subst this
      exact .inr (seal5_signed hh _ ⟨rfl, rfl, rfl⟩)
    · have e : powS (oneL h t last).set (oneL h t last).commit.seals = 2 := by
        show ([seal5 h (hdrHash (hdr5 h t last))].map fun s => powL s.key set5).sum = 2
        have : powL (seal5 h (hdrHash (hdr5 h t last))).key set5 = 2 := pow5
        simp [this]
      rw [e]
      show twoB 2 (totalL set5) = true
      rw [total5]; decide
    · intro s hs
      have : s = seal5 h (hdrHash (hdr5 h t last)) := by unfold oneL at hs; simpa using hs
      subst this
      show powL key5 set5 ≠ 0
      rw [pow5]; decide
theorem one_wf {h t : Int} {last : List UInt8} (hh : i64R h) (ht : i64R t) (hl : last.length = 32) : (oneL h t last).wf := by
  refine ⟨hdr5_wf hh ht hl, ⟨hh, i64_0, hdrHash_len _, ?_⟩, ?_, ?_⟩
  · intro s hs
    have : s = seal5 h (hdrHash (hdr5 h t last)) := by unfold oneL at hs; simpa using hs
    subst this
    have h1 := key5_lt
    have h2 : sgR 5 (encVote (vote5 h (hdrHash (hdr5 h t last))).bare) < pP := Nat.mod_lt _ (by decide)
    have h3 : sgS 5 (encVote (vote5 h (hdrHash (hdr5 h t last))).bare) < pQ := Nat.mod_lt _ (by decide)
    unfold pP at h1 h2
    unfold pQ at h3
    exact ⟨⟨by unfold seal5; dsimp only; omega, by unfold seal5; dsimp only; omega⟩, ⟨by unfold seal5; dsimp only; omega, by unfold seal5; dsimp only; omega⟩, ⟨by unfold seal5; dsimp only; omega, by unfold seal5; dsimp only; omega⟩⟩
  all_goals
    intro v hv
    have : v = ⟨(key5 : Int), 2⟩ := by unfold oneL set5 at hv; simpa using hv
    subst this
    have h1 := key5_lt
    unfold pP at h1
    exact ⟨⟨by dsimp only; omega, by dsimp only; omega⟩, by unfold i64R; decide⟩
/-- the first block, the second one -/
def a15 : LightD := oneL 1 10 z32
def b15 : LightD := oneL 2 20 (hdrHash (hdr5 1 10 z32))
theorem hz_a : hdrHash (hdr5 1 10 z32) ≠ z32 := by decide +kernel
theorem hz_b : hdrHash (hdr5 2 20 (hdrHash (hdr5 1 10 z32))) ≠ z32 := by decide +kernel
def opt15 : OptD := ⟨4602678819172646912, 4636737291354636288, 4607182418800017408⟩
theorem a15_sound : soundL ⟨#[97]⟩ a15 = 0 := one_sound (by decide) (by decide) hz_a
theorem b15_sound : soundL ⟨#[97]⟩ b15 = 0 := one_sound (by decide) (by decide) hz_b
theorem step15 : vstepL a15 b15 4627730092099895296 opt15 = 0 := by
  rw [step_iff]
  refine ⟨by decide +kernel, by decide +kernel, by decide +kernel, by decide, by decide, by decide +kernel, b15_sound, .inl ⟨rfl, ?_⟩⟩
  unfold nextL
  rw [if_neg (fun h => h rfl), if_neg]
  rintro (h | h)
  · have : okHeader a15.header = true := hdr5_ok (by decide) (by decide)
    rw [this] at h; cases h
  · exact h rfl
theorem late15 : vstepL a15 b15 4637440978796412928 opt15 = 155 := by
  unfold vstepL
  have h1 : rightO opt15 = true := by decide +kernel
  have h2 : finB 4637440978796412928 = true := by decide +kernel
  have h3 : expF a15.header.time 4637440978796412928 opt15 = true := by decide +kernel
  rw [if_neg (by rw [h1]; decide), if_neg (by rw [h2]; decide), if_pos h3]

end Go.Proofs.YtbhghlendbcejaaGreatDoor
