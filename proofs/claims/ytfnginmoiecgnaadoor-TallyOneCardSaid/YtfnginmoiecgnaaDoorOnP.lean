/- Plain: one winner: what votes that are added, one by one, do. -/
import Derived.Test.YtfnginmoiecgnaaDoorTl2
namespace Go.Proofs.YtfnginmoiecgnaaDoor
set_option maxRecDepth 100000

theorem add_set (T : TD) (v : VoteD) : (T.add v).1.set = T.set ∧ (T.add v).1.of = T.of := by
  unfold TD.add
  split
  · exact ⟨rfl, rfl⟩
  split
  · exact ⟨rfl, rfl⟩
  split
  · exact ⟨rfl, rfl⟩
  split
  · split <;> exact ⟨rfl, rfl⟩
  · exact ⟨rfl, rfl⟩
theorem add_cnt (T : TD) (v : VoteD) : ((T.add v).1.cnt = T.cnt ∨ (T.add v).1.cnt = T.cnt ++ [v]) ∧ (T.add v).1.both.length ≤ T.both.length + 2 := by
  unfold TD.add
  split
  · exact ⟨.inl rfl, by simp⟩
  split
  · exact ⟨.inl rfl, by simp⟩
  split
  · exact ⟨.inl rfl, by simp⟩
  split
  · split
    · exact ⟨.inl rfl, by simp⟩
    · exact ⟨.inl rfl, by simp⟩
  · exact ⟨.inr rfl, by simp⟩
theorem add_pow {T : TD} (hT : T.ok) (v : VoteD) (x : List UInt8) : T.pow x ≤ (T.add v).1.pow x := by
  have hs := (add_set T v).1
  unfold TD.pow
  rw [hs]
  rcases (add_cnt T v).1 with h | h
  · rw [h]; exact Int.le_refl _
  · rw [h, pow_snoc]
    have := powL_nonneg (right_sum hT.right).1 v.key
    split <;> omega
theorem pow_le {T : TD} (hT : T.ok) (x : List UInt8) : 0 ≤ T.pow x ∧ T.pow x ≤ T.all ∧ T.all ≤ totalL T.set ∧ totalL T.set ≤ 1125899906842624 := by
  obtain ⟨h1, _, h3⟩ := right_sum hT.right
  exact ⟨powsL_nonneg h1 _, powsL_filter h1 _ _, pows_total hT.right hT.keys, h3⟩
theorem twoB_mono {p q t : Int} (h : twoB p t = true) (hpq : p ≤ q) (hq : q ≤ 1125899906842624) : twoB q t = true := by
  obtain ⟨h0, _, h2⟩ := twoB_true h
  unfold twoB at h ⊢
  simp only [Bool.and_eq_true, decide_eq_true_eq] at h ⊢
  refine ⟨?_, h.2.1, by omega⟩
  unfold powB
  simp
  omega
theorem win_is {T : TD} (hT : T.ok) (x : List UInt8) : twoB (T.pow x) (totalL T.set) = decide (T.win = some x) := by
  cases h : twoB (T.pow x) (totalL T.set) with
  | true =>
    have hx : ∃ u ∈ T.cnt, u.block = x := by
      by_cases e : ∃ u ∈ T.cnt, u.block = x
      · exact e
      · exfalso
        have : forX T.cnt x = [] := List.filter_eq_nil_iff.2 fun u hu => by simp; exact fun hb => e ⟨u, hu, hb⟩
        obtain ⟨h0, h1, h2⟩ := twoB_true h
        unfold TD.pow at h0 h2
        rw [this] at h2
        simp [powsL] at h2
        omega
    obtain ⟨u, hu, rfl⟩ := hx
    rw [win_some hT hu h]; simp
  | false =>
    symm
    apply decide_eq_false
    intro e
    unfold TD.win at e
    obtain ⟨u, hu, hb⟩ := Option.map_eq_some_iff.1 e
    have := List.find?_some hu
    rw [hb] at this
    rw [this] at h; cases h
theorem win_stays {T : TD} (hT : T.ok) {v : VoteD} (hv : v.wf) {x : List UInt8} (h : T.win = some x) : (T.add v).1.win = some x := by
  have h1 : twoB (T.pow x) (totalL T.set) = true := by rw [win_is hT]; simp [h]
  have hok := TD.add_ok hT hv
  have hp := pow_le hok x
  have h2 : twoB ((T.add v).1.pow x) (totalL (T.add v).1.set) = true := by
    rw [(add_set T v).1]
    exact twoB_mono h1 (add_pow hT v x) (by omega)
  rw [win_is hok] at h2
  simpa using h2
theorem win_len {T : TD} (hT : T.ok) {x : List UInt8} (h : T.win = some x) : x.length = 32 := by
  unfold TD.win at h
  obtain ⟨u, hu, hb⟩ := Option.map_eq_some_iff.1 h
  rw [← hb]
  exact (hT.cnt u (List.mem_of_find?_eq_some hu)).block

/-! votes, one by one -/
def addAll (T : TD) (l : List VoteD) : TD := l.foldl (fun T v => (T.add v).1) T
theorem addAll_take (T : TD) (l : List VoteD) {i : Nat} (hi : i < l.length) : addAll T (l.take (i + 1)) = ((addAll T (l.take i)).add l[i]).1 := by
  unfold addAll
  rw [List.take_succ_eq_append_getElem hi, List.foldl_append]
  rfl
theorem addAll_ok {T : TD} (hT : T.ok) : ∀ l : List VoteD, (∀ v ∈ l, v.wf) → (addAll T l).ok
  | [], _ => hT
  | v :: l, h => addAll_ok (T := (T.add v).1) (TD.add_ok hT (h v (by simp))) l fun u hu => h u (by simp [hu])
theorem addAll_set (T : TD) : ∀ l : List VoteD, (addAll T l).set = T.set
  | [] => rfl
  | v :: l => by
    have := addAll_set (T.add v).1 l
    rw [(add_set T v).1] at this
    exact this
theorem addAll_size (T : TD) : ∀ l : List VoteD, (addAll T l).cnt.length ≤ T.cnt.length + l.length ∧ (addAll T l).both.length ≤ T.both.length + 2 * l.length
  | [] => by simp [addAll]
  | v :: l => by
    have := addAll_size (T.add v).1 l
    have h := add_cnt T v
    have h1 : (T.add v).1.cnt.length ≤ T.cnt.length + 1 := by rcases h.1 with e | e <;> rw [e] <;> simp
    have h2 := h.2
    have e : addAll T (v :: l) = addAll (T.add v).1 l := rfl
    rw [e]
    simp only [List.length_cons]
    omega
theorem addAll_cnt (T : TD) (S : List VoteD) : ∀ l : List VoteD, (∀ u ∈ T.cnt, u ∈ S) → (∀ u ∈ l, u ∈ S) → ∀ u ∈ (addAll T l).cnt, u ∈ S
  | [], h, _, u, hu => h u hu
  | v :: l, h, hl, u, hu => by
    refine addAll_cnt (T.add v).1 S l (fun y hy => ?_) (fun y hy => hl y (by simp [hy])) u hu
    rcases (add_cnt T v).1 with e | e
    · rw [e] at hy; exact h y hy
    · rw [e] at hy
      rcases List.mem_append.1 hy with hy | hy
      · exact h y hy
      · simp at hy; subst hy; exact hl _ (by simp)

/-! blocks, each once -/
def blkAt (l : List VoteD) (k : Nat) : List UInt8 := ((l[k]?).map (·.block)).getD []
theorem blkAt_get {l : List VoteD} {k : Nat} (h : k < l.length) : blkAt l k = l[k].block := by simp [blkAt, h]
def dB (l : List VoteD) : Nat → List (List UInt8)
  | 0 => []
  | k + 1 => if blkAt l k ∈ dB l k then dB l k else dB l k ++ [blkAt l k]
def fstB (l : List VoteD) (k : Nat) : Nat → Bool
  | 0 => true
  | j + 1 => fstB l k j && !(blkAt l j == blkAt l k)
theorem mem_dB (l : List VoteD) (x : List UInt8) : ∀ k, x ∈ dB l k ↔ ∃ j, j < k ∧ blkAt l j = x
  | 0 => by simp [dB]
  | k + 1 => by
    have ih := mem_dB l x k
    unfold dB
    split
    · rename_i h
      rw [ih]
      constructor
      · rintro ⟨j, hj, e⟩; exact ⟨j, by omega, e⟩
      · rintro ⟨j, hj, e⟩
        rcases Nat.lt_or_ge j k with hjk | hjk
        · exact ⟨j, hjk, e⟩
        · obtain rfl : j = k := by omega
          rw [e] at h
          exact (mem_dB l x j).1 h
    · rw [List.mem_append, ih]
      constructor
      · rintro (⟨j, hj, e⟩ | h)
        · exact ⟨j, by omega, e⟩
        · simp at h; exact ⟨k, by omega, h.symm⟩
      · rintro ⟨j, hj, e⟩
        rcases Nat.lt_or_ge j k with hjk | hjk
        · exact .inl ⟨j, hjk, e⟩
        · obtain rfl : j = k := by omega
          exact .inr (by simp [e])
theorem nodup_dB (l : List VoteD) : ∀ k, (dB l k).Nodup
  | 0 => by simp [dB]
  | k + 1 => by
    unfold dB
    split
    · exact nodup_dB l k
    · rename_i h
      rw [List.nodup_append]
      refine ⟨nodup_dB l k, by simp, fun a ha b hb e => ?_⟩
      simp at hb
      subst hb e
      exact h ha
theorem fstB_eq (l : List VoteD) (k : Nat) : ∀ j, fstB l k j = decide (∀ i, i < j → blkAt l i ≠ blkAt l k)
  | 0 => by simp [fstB]
  | j + 1 => by
    rw [fstB, fstB_eq l k j]
    by_cases h : ∀ i, i < j → blkAt l i ≠ blkAt l k
    · rw [decide_eq_true h, Bool.true_and]
      by_cases e : blkAt l j = blkAt l k
      · rw [decide_eq_false (fun hh => hh j (by omega) e)]; simp [e]
      · rw [decide_eq_true (fun i hi => ?_)]
        · simp [e]
        · rcases Nat.lt_or_ge i j with h1 | h1
          · exact h i h1
          · obtain rfl : i = j := by omega
            exact e
    · rw [decide_eq_false h, Bool.false_and, decide_eq_false (fun hh => h fun i hi => hh i (by omega))]
theorem fstB_mem (l : List VoteD) (k : Nat) : fstB l k k = !(decide (blkAt l k ∈ dB l k)) := by
  rw [fstB_eq]
  by_cases h : blkAt l k ∈ dB l k
  · rw [decide_eq_true h]
    obtain ⟨j, hj, e⟩ := (mem_dB l _ k).1 h
    rw [decide_eq_false (fun hh => hh j hj e)]; rfl
  · rw [decide_eq_false h]
    have hh : ∀ i, i < k → blkAt l i ≠ blkAt l k := fun i hi e => h ((mem_dB l _ k).2 ⟨i, hi, e⟩)
    rw [decide_eq_true hh]; rfl
def sumB (T : TD) (bs : List (List UInt8)) : Int := (bs.map T.pow).sum
theorem sum_blocks {ds : List ValD} (h : ∀ d ∈ ds, 1 ≤ d.power) (bs : List (List UInt8)) (hn : bs.Nodup) : ∀ l : List VoteD, (bs.map fun x => powsL ds (forX l x)).sum ≤ powsL ds l ∧ ((∀ u ∈ l, u.block ∈ bs) → (bs.map fun x => powsL ds (forX l x)).sum = powsL ds l)
  | [] => by
    have : ∀ bs : List (List UInt8), (bs.map fun x => powsL ds (forX [] x)).sum = 0 := fun bs => by
      induction bs with
      | nil => rfl
      | cons b l ih => rw [List.map_cons, List.sum_cons, ih]; simp [forX, powsL]
    rw [this]; simp [powsL]
  | u :: l => by
    obtain ⟨h1, h2⟩ := sum_blocks h bs hn l
    have hu := powL_nonneg h u.key
    have e1 : ∀ bs : List (List UInt8), bs.Nodup → (bs.map fun x => powsL ds (forX (u :: l) x)).sum = (if u.block ∈ bs then powL u.key ds else 0) + (bs.map fun x => powsL ds (forX l x)).sum := fun bs hb => by
      induction bs with
      | nil => simp
      | cons b m ih =>
        rw [List.nodup_cons] at hb
        rw [List.map_cons, List.sum_cons, ih hb.2, List.map_cons, List.sum_cons]
        have e : powsL ds (forX (u :: l) b) = (if u.block = b then powL u.key ds else 0) + powsL ds (forX l b) := by
          by_cases hu : u.block = b <;> simp [forX, powsL, hu]
        rw [e]
        by_cases hub : u.block = b
        · subst hub
          rw [if_pos rfl, if_neg hb.1, if_pos (by simp)]; omega
        · rw [if_neg hub]
          have : (u.block ∈ b :: m) ↔ u.block ∈ m := by simp [hub]
          simp only [this]
          omega
    rw [e1 bs hn]
    have e3 : powsL ds (u :: l) = powL u.key ds + powsL ds l := by simp [powsL]
    rw [e3]
    refine ⟨by split <;> omega, fun hc => ?_⟩
    rw [if_pos (hc u (by simp)), h2 fun v hv => hc v (by simp [hv])]
theorem sumB_le {T : TD} (hT : T.ok) (l : List VoteD) (k : Nat) : 0 ≤ sumB T (dB l k) ∧ sumB T (dB l k) ≤ T.all := by
  have h := (right_sum hT.right).1
  refine ⟨?_, (sum_blocks h _ (nodup_dB l k) T.cnt).1⟩
  unfold sumB
  have : ∀ bs : List (List UInt8), 0 ≤ (bs.map T.pow).sum := fun bs => by
    induction bs with
    | nil => simp
    | cons b m ih => rw [List.map_cons, List.sum_cons]; have := (pow_le hT b).1; omega
  exact this _
theorem sumB_all {T : TD} (hT : T.ok) (l : List VoteD) (k : Nat) (hc : ∀ u ∈ T.cnt, u.block ∈ dB l k) : sumB T (dB l k) = T.all :=
  (sum_blocks (right_sum hT.right).1 _ (nodup_dB l k) T.cnt).2 hc
theorem sumB_step (T : TD) (l : List VoteD) (k : Nat) : sumB T (dB l (k + 1)) = if fstB l k k then sumB T (dB l k) + T.pow (blkAt l k) else sumB T (dB l k) := by
  rw [fstB_mem]
  unfold sumB
  rw [dB]
  by_cases h : blkAt l k ∈ dB l k
  · simp [h]
  · simp [h]
theorem cover {T0 : TD} (h0 : T0.cnt = []) (l : List VoteD) {i : Nat} (hi : i < l.length) : ∀ u ∈ (addAll T0 (l.take (i + 1))).cnt, u.block ∈ dB l (i + 1) := by
  intro u hu
  have := addAll_cnt T0 (l.take (i + 1)) (l.take (i + 1)) (by rw [h0]; simp) (fun _ h => h) u hu
  obtain ⟨j, hj, e⟩ := List.getElem_of_mem this
  refine (mem_dB l _ _).2 ⟨j, ?_, ?_⟩
  · rw [List.length_take] at hj; omega
  · have hj2 : j < l.length := by rw [List.length_take] at hj; omega
    rw [blkAt_get hj2, ← e, List.getElem_take]

end Go.Proofs.YtfnginmoiecgnaaDoor
