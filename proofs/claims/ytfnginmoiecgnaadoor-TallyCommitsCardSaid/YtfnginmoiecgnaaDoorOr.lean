/- Plain: votes in any order. Walk: nunciolaw09.who; two tallies side by side. Walk: nunciolaw09.TallyOrder. -/
import Derived.Test.YtfnginmoiecgnaaDoorCmt
namespace Go.Proofs.YtfnginmoiecgnaaDoor
set_option maxRecDepth 100000

theorem perm_sum {l m : List Int} (h : l.Perm m) : l.sum = m.sum := by
  induction h with
  | nil => rfl
  | cons x _ ih => simp [ih]
  | swap x y l => simp; omega
  | trans _ _ a b => exact a.trans b
/-- a vote that a tally counts, or has -/
def okV (T : TD) (v : VoteD) : Prop := T.fits v = true ∧ powL v.key T.set ≠ 0 ∧ signedB v = true
/-- what a tally has of the votes in l -/
structure InvO (T0 T : TD) (l : List VoteD) : Prop where
  set : T.set = T0.set
  of : T.of = T0.of
  from_ : ∀ u ∈ T.cnt, okV T0 u ∧ u ∈ l
  all : ∀ v ∈ l, okV T0 v → v.key ∈ T.cnt.map (·.key)
  same : T.both = [] → ∀ v ∈ l, okV T0 v → ∃ u ∈ T.cnt, u.key = v.key ∧ u.block = v.block
theorem invO_nil {T0 : TD} (h : T0.cnt = []) : InvO T0 T0 [] := ⟨rfl, rfl, by rw [h]; simp, by simp, by simp⟩
theorem add_cases (T : TD) (v : VoteD) : ((T.add v).1 = T ∧ ¬ okV T v) ∨ (okV T v ∧ ((∃ o, findK T.cnt v.key = some o ∧ o.block = v.block ∧ (T.add v).1 = T) ∨ (∃ o, findK T.cnt v.key = some o ∧ o.block ≠ v.block ∧ (T.add v).1 = { T with both := T.both ++ [o, v] }) ∨ (findK T.cnt v.key = none ∧ (T.add v).1 = { T with cnt := T.cnt ++ [v] }))) := by
  unfold okV TD.add
  by_cases h1 : T.fits v = false
  · left; rw [if_pos h1]; exact ⟨rfl, fun h => by rw [h1] at h; cases h.1⟩
  rw [if_neg h1]
  by_cases h2 : powL v.key T.set = 0
  · left; rw [if_pos h2]; exact ⟨rfl, fun h => h.2.1 h2⟩
  rw [if_neg h2]
  by_cases h3 : signedB v = false
  · left; rw [if_pos h3]; exact ⟨rfl, fun h => by rw [h3] at h; cases h.2.2⟩
  rw [if_neg h3]
  right
  refine ⟨⟨by simpa using h1, h2, by simpa using h3⟩, ?_⟩
  cases hf : findK T.cnt v.key with
  | none => right; right; exact ⟨rfl, rfl⟩
  | some o =>
    by_cases hb : o.block = v.block
    · left; exact ⟨o, rfl, hb, by simp [hb]⟩
    · right; left; exact ⟨o, rfl, hb, by simp [hb]⟩
theorem okV_of {T0 T : TD} (h1 : T.set = T0.set) (h2 : T.of = T0.of) (v : VoteD) : okV T v ↔ okV T0 v := by
  unfold okV TD.fits; rw [h1, h2]
theorem InvO.add {T0 T : TD} {l : List VoteD} (h : InvO T0 T l) (_hk : (T.cnt.map (·.key)).Nodup) (v : VoteD) : InvO T0 (T.add v).1 (l ++ [v]) := by
  have hset := (add_set T v).1; have hof := (add_set T v).2
  rcases add_cases T v with ⟨e, hn⟩ | ⟨ho, ⟨o, hf, hb, e⟩ | ⟨o, hf, hb, e⟩ | ⟨hf, e⟩⟩
  · rw [e]
    rw [okV_of h.set h.of] at hn
    refine ⟨h.set, h.of, fun u hu => ⟨(h.from_ u hu).1, List.mem_append_left _ (h.from_ u hu).2⟩, fun u hu hv => ?_, fun hb u hu hv => ?_⟩
    · rcases List.mem_append.1 hu with hu | hu
      · exact h.all u hu hv
      · simp at hu; subst hu; exact absurd hv hn
    · rcases List.mem_append.1 hu with hu | hu
      · exact h.same hb u hu hv
      · simp at hu; subst hu; exact absurd hv hn
  · rw [e]
    obtain ⟨m1, m2⟩ := findK_some hf
    refine ⟨h.set, h.of, fun u hu => ⟨(h.from_ u hu).1, List.mem_append_left _ (h.from_ u hu).2⟩, fun u hu hv => ?_, fun hb' u hu hv => ?_⟩
    · rcases List.mem_append.1 hu with hu | hu
      · exact h.all u hu hv
      · simp at hu; subst hu; exact List.mem_map.2 ⟨o, m1, m2⟩
    · rcases List.mem_append.1 hu with hu | hu
      · exact h.same hb' u hu hv
      · simp at hu; subst hu; exact ⟨o, m1, m2, hb⟩
  · rw [e]
    obtain ⟨m1, m2⟩ := findK_some hf
    refine ⟨h.set, h.of, fun u hu => ⟨(h.from_ u hu).1, List.mem_append_left _ (h.from_ u hu).2⟩, fun u hu hv => ?_, fun hb' => by simp at hb'⟩
    rcases List.mem_append.1 hu with hu | hu
    · exact h.all u hu hv
    · simp at hu; subst hu; exact List.mem_map.2 ⟨o, m1, m2⟩
  · rw [e]
    rw [okV_of h.set h.of] at ho
    refine ⟨h.set, h.of, fun u hu => ?_, fun u hu hv => ?_, fun hb' u hu hv => ?_⟩
    · rcases List.mem_append.1 hu with hu | hu
      · exact ⟨(h.from_ u hu).1, List.mem_append_left _ (h.from_ u hu).2⟩
      · simp at hu; subst hu; exact ⟨ho, by simp⟩
    · rcases List.mem_append.1 hu with hu | hu
      · have := h.all u hu hv; simp at this ⊢; exact .inl this
      · simp at hu; subst hu; simp
    · rcases List.mem_append.1 hu with hu | hu
      · obtain ⟨o, h1, h2⟩ := h.same hb' u hu hv
        exact ⟨o, by simp [h1], h2⟩
      · simp at hu; subst hu; exact ⟨u, by simp, rfl, rfl⟩
theorem invO_all {T0 : TD} (hT : T0.ok) : ∀ (l pre : List VoteD) (T : TD), T.ok → InvO T0 T pre → (∀ v ∈ l, v.wf) → InvO T0 (addAll T l) (pre ++ l)
  | [], pre, T, _, h, _ => by rw [List.append_nil]; exact h
  | v :: l, pre, T, ho, h, hw => by
    have := invO_all hT l (pre ++ [v]) (T.add v).1 (TD.add_ok ho (hw v (by simp))) (h.add ho.keys v) fun u hu => hw u (by simp [hu])
    rw [List.append_assoc] at this
    exact this
/-- keys and blocks -/
def kb (u : VoteD) : Int × List UInt8 := (u.key, u.block)
section
variable {T0 A B : TD} {l m : List VoteD} (hA : A.ok) (hB : B.ok) (iA : InvO T0 A l) (iB : InvO T0 B m) (hlm : ∀ u, u ∈ l ↔ u ∈ m)
include hA hB iA iB hlm
theorem keys_same : (A.cnt.map (·.key)).Perm (B.cnt.map (·.key)) := by
  refine (List.perm_ext_iff_of_nodup hA.keys hB.keys).2 fun k => ⟨fun h => ?_, fun h => ?_⟩
  · obtain ⟨u, hu, rfl⟩ := List.mem_map.1 h
    obtain ⟨a, b⟩ := iA.from_ u hu
    exact iB.all u ((hlm u).1 b) a
  · obtain ⟨u, hu, rfl⟩ := List.mem_map.1 h
    obtain ⟨a, b⟩ := iB.from_ u hu
    exact iA.all u ((hlm u).2 b) a
theorem all_same : A.all = B.all := by
  have h := perm_sum ((keys_same hA hB iA iB hlm).map fun k => powL k T0.set)
  unfold TD.all powsL
  rw [iA.set, iB.set]
  simpa [List.map_map, Function.comp_def] using h
theorem kb_same (bA : A.both = []) (bB : B.both = []) : (A.cnt.map kb).Perm (B.cnt.map kb) := by
  have nd : ∀ {T : TD}, T.ok → (T.cnt.map kb).Nodup := fun {T} h => by
    have := h.keys
    rw [List.Nodup, List.pairwise_map] at this ⊢
    exact this.imp fun {a b} h e => h (congrArg Prod.fst e)
  refine (List.perm_ext_iff_of_nodup (nd hA) (nd hB)).2 fun k => ⟨fun h => ?_, fun h => ?_⟩
  · obtain ⟨u, hu, rfl⟩ := List.mem_map.1 h
    obtain ⟨a, b⟩ := iA.from_ u hu
    obtain ⟨o, h1, h2, h3⟩ := iB.same bB u ((hlm u).1 b) a
    exact List.mem_map.2 ⟨o, h1, by unfold kb; rw [h2, h3]⟩
  · obtain ⟨u, hu, rfl⟩ := List.mem_map.1 h
    obtain ⟨a, b⟩ := iB.from_ u hu
    obtain ⟨o, h1, h2, h3⟩ := iA.same bA u ((hlm u).2 b) a
    exact List.mem_map.2 ⟨o, h1, by unfold kb; rw [h2, h3]⟩
theorem pow_same (bA : A.both = []) (bB : B.both = []) (x : List UInt8) : A.pow x = B.pow x := by
  have h := perm_sum (((kb_same hA hB iA iB hlm bA bB).filter fun p : Int × List UInt8 => decide (p.2 = x)).map fun p : Int × List UInt8 => powL p.1 T0.set)
  have e : ∀ c : List VoteD, (((c.map kb).filter fun p : Int × List UInt8 => decide (p.2 = x)).map fun p : Int × List UInt8 => powL p.1 T0.set) = (forX c x).map fun u => powL u.key T0.set := fun c => by rw [List.filter_map, List.map_map]; rfl
  rw [e, e] at h
  unfold TD.pow powsL
  rw [iA.set, iB.set]
  exact h
theorem win_same (bA : A.both = []) (bB : B.both = []) : A.win = B.win := by
  have h : ∀ x, A.win = some x ↔ B.win = some x := fun x => by
    have h1 := win_is hA x; have h2 := win_is hB x
    rw [pow_same hA hB iA iB hlm bA bB x, iA.set, ← iB.set] at h1
    rw [h1] at h2
    simpa using h2
  cases hw : A.win with
  | some x => exact ((h x).1 hw).symm
  | none =>
    cases hv : B.win with
    | none => rfl
    | some x => rw [(h x).2 hv] at hw; cases hw
theorem votes_same (bA : A.both = []) (bB : B.both = []) : A.votes.map kb = B.votes.map kb := by
  have hp : (A.votes.map kb).Perm (B.votes.map kb) := ((votes_perm A).map kb).trans ((kb_same hA hB iA iB hlm bA bB).trans ((votes_perm B).map kb).symm)
  have sA : (A.votes.map kb).Pairwise fun a b => a.1 < b.1 := by rw [List.pairwise_map]; exact votes_lt hA
  have sB : (B.votes.map kb).Pairwise fun a b => a.1 < b.1 := by rw [List.pairwise_map]; exact votes_lt hB
  refine List.Perm.eq_of_pairwise (le := fun a b : Int × List UInt8 => a.1 ≤ b.1) (fun a b ha hb h1 h2 => ?_) (sA.imp fun h => by omega) (sB.imp fun h => by omega) hp
  have hb' := hp.mem_iff.2 hb
  obtain ⟨i, hi, rfl⟩ := List.getElem_of_mem ha
  obtain ⟨j, hj, rfl⟩ := List.getElem_of_mem hb'
  rcases Nat.lt_trichotomy i j with h | h | h
  · have := List.pairwise_iff_getElem.1 sA i j hi hj h; omega
  · subst h; rfl
  · have := List.pairwise_iff_getElem.1 sA j i hj hi h; omega
theorem seals_same (bA : A.both = []) (bB : B.both = []) (x : List UInt8) : (sealsOf A.votes x).map (·.key) = (sealsOf B.votes x).map (·.key) := by
  have h := congrArg (fun l : List (Int × List UInt8) => (l.filter fun p : Int × List UInt8 => decide (p.2 = x)).map fun p : Int × List UInt8 => p.1) (votes_same hA hB iA iB hlm bA bB)
  have e : ∀ c : List VoteD, (((c.map kb).filter fun p : Int × List UInt8 => decide (p.2 = x)).map fun p : Int × List UInt8 => p.1) = (sealsOf c x).map (·.key) := fun c => by unfold sealsOf; rw [List.filter_map, List.map_map, List.map_map]; rfl
  rw [e, e] at h
  exact h
end
open Go.RowKit
open Go.Maps (Keyed)

set_option maxHeartbeats 4000000 in
theorem who_ok {B : Nat} (va vb : Value) (la lb : List VoteD) (w : World) (ha : RdS B w va la.length 39 (vsCells la)) (hb : RdS B w vb lb.length 39 (vsCells lb)) (wa : ∀ u ∈ la, u.wf) (wb : ∀ u ∈ lb, u.wf) (h : la.map kb = lb.map kb) :
    Calls Tryd.prog 31 #[va, vb] w fun e w' => e = .returned (.bool true) ∧ w.grownBy w' none := by
  have hl : la.length = lb.length := by have := congrArg List.length h; simpa using this
  have HAl := Lib.hid (show ∀ k (h1 : k < la.length) (h2 : k < lb.length), la[k].key = lb[k].key ∧ la[k].block = lb[k].block from fun k h1 h2 => by
    have := congrArg (fun l : List (Int × List UInt8) => l[k]?) h
    simp only [List.getElem?_map, List.getElem?_eq_getElem h1, List.getElem?_eq_getElem h2, Option.map_some, Option.some.injEq] at this
    exact ⟨congrArg Prod.fst this, congrArg Prod.snd this⟩)
  have HA := Lib.hid ha; have HB := Lib.hid hb; have WA := Lib.hid wa; have WB := Lib.hid wb; have HL := Lib.hid hl
  obtain ⟨aa, ac, rfl⟩ := ha.shape
  obtain ⟨ba, bc, rfl⟩ := hb.shape
  have hm := ha.le; have hm2 := hb.le
  unfold maxLen at hm hm2
  rw [← hl] at hm2
  rw [← hl]
  obtain ⟨n, hn⟩ : ∃ n, la.length = n := ⟨_, rfl⟩
  have HN := Lib.hid hn
  rw [hn] at hm hm2 ⊢
  clear ha hb wa wb h hl hn hm2
  go_enter Tryd.func31, Tryd.ntmps31
  go_wp2_with fail
  go_loopw [5] (fun i wr => ∃ k : Nat, k ≤ n ∧ i = .int .i64 k ∧ w.grownBy wr none) (fun i _ => n - (intOf i).toNat)
  case atStart => exact ⟨0, Nat.zero_le _, rfl, gb_refl _⟩
  case round =>
    obtain ⟨k, hk, rfl, hg⟩ := hrel
    have Hg := Lib.hid hg
    clear hg
    by_cases hlt : k < n
    · have k1 : k < la.length := by rw [HN.out]; exact hlt
      have k2 : k < lb.length := by rw [← HL.out, HN.out]; exact hlt
      obtain ⟨ga, oa, ca, hsa, hle, hcm, hga, hrow⟩ := HA.out.at_ (by omega)
      obtain ⟨gb, ob, cb, hsb, hle2, hcm2, hgb, hrow2⟩ := HB.out.at_ (by omega)
      injection hsa with e1 _ e3
      injection hsb with f1 _ f3
      subst e1 e3 f1 f3
      unfold maxLen at hcm hcm2
      rw [HN.out] at hle
      rw [← HL.out, HN.out] at hle2
      have q := dr_grown wr 1
      have VA := VoteD.At.of_row (WA.out _ (List.getElem_mem k1)) (RowAt.vote (hrow.grown (Lib.grownBy_trans Hg.out q) (by simp)) WA.out k k1)
      have VB := VoteD.At.of_row (WB.out _ (List.getElem_mem k2)) (RowAt.vote (hrow2.grown (Lib.grownBy_trans Hg.out q) (by simp)) WB.out k k2)
      obtain ⟨ky, hky⟩ : ∃ x, la[k].key = x := ⟨_, rfl⟩
      obtain ⟨x, hx⟩ : ∃ x, la[k].block = x := ⟨_, rfl⟩
      have A1 := Lib.hid VA.key; have A2 := Lib.hid VA.block; have B1 := Lib.hid VB.key; have B2 := Lib.hid VB.block
      have hxl := Lib.hid (show x.length = 32 from hx ▸ (WA.out _ (List.getElem_mem k1)).block)
      rw [hky] at A1; rw [hx] at A2
      rw [← (HAl.out k k1 k2).1, hky] at B1
      rw [← (HAl.out k k1 k2).2, hx] at B2
      have HFx := Lib.hid (hash_fits _ hxl.out)
      have hvv : VEq (Lib.byteCells x) (Lib.byteCells x) = true := by rw [VEq.bytes]; simp
      have HVV := Lib.hid (show (!VEq (Lib.byteCells x) (Lib.byteCells x)) = false by rw [hvv]; rfl)
      clear VA VB hrow hrow2 hky hx hvv q
      go_upto_region 6 with (fail)
      refine wp_region_held_drew (S := fun W => W.cell? ⟨ga, oa + k * 39 + 36, none⟩ = some (.int .u64 ky) ∧ W.cell? ⟨gb, ob + k * 39 + 36, none⟩ = some (.int .u64 ky) ∧ RowAt W ga (oa + k * 39 + 4) (Lib.byteCells x) ∧ RowAt W gb (ob + k * 39 + 4) (Lib.byteCells x)) (by kernel_rfl) ⟨A1.out, B1.out, A2.out, B2.out⟩ (fun hH => ?_)
      refine wpAnyH_take (i := 0) (v := (.slice (some ⟨ga, oa, none⟩) n ac)) rfl (by kernel_rfl) (by kernel_rfl) (by kernel_rfl) (fun _ _ _ h => h) (Or.inl ⟨by rfl, fun W hS => by go_simp⟩) hH ?_
      simp only [Act.put, List.getElem_toArray, List.getElem_cons_zero, List.setIfInBounds_toArray, List.set_cons_zero, List.set_cons_succ]
      refine wpAnyH_take (i := 1) (v := (.int .i64 k)) rfl (by kernel_rfl) (by kernel_rfl) (by kernel_rfl) (fun _ _ _ h => h) (Or.inl ⟨by rfl, fun W hS => by go_simp⟩) hH ?_
      simp only [Act.put, List.getElem_toArray, List.getElem_cons_succ, List.getElem_cons_zero, List.setIfInBounds_toArray, List.set_cons_zero, List.set_cons_succ]
      refine wpAnyH_take (i := 2) (v := (.pointer (some ⟨ga, oa + k * 39, none⟩))) rfl (by kernel_rfl) (by kernel_rfl) (by kernel_rfl) (fun _ _ _ h => h) (Or.inl ⟨by rfl, fun W hS => by go_simp⟩) hH ?_
      simp only [Act.put, List.getElem_toArray, List.getElem_cons_succ, List.getElem_cons_zero, List.setIfInBounds_toArray, List.set_cons_zero, List.set_cons_succ]
      refine wpAnyH_take (i := 3) (v := (.pointer (some ⟨ga, oa + k * 39 + 36, none⟩))) rfl (by kernel_rfl) (by kernel_rfl) (by kernel_rfl) (fun _ _ _ h => h) (Or.inl ⟨by rfl, fun W hS => by go_simp⟩) hH ?_
      simp only [Act.put, List.getElem_toArray, List.getElem_cons_succ, List.getElem_cons_zero, List.setIfInBounds_toArray, List.set_cons_zero, List.set_cons_succ]
      refine wpAnyH_take (i := 4) (v := (.int .u64 ky)) rfl (by kernel_rfl) (by kernel_rfl) (by kernel_rfl) (fun _ _ _ h => h) (Or.inl ⟨by rfl, fun W hS => by have c := hS.1; go_simp⟩) hH ?_
      simp only [Act.put, List.getElem_toArray, List.getElem_cons_succ, List.getElem_cons_zero, List.setIfInBounds_toArray, List.set_cons_zero, List.set_cons_succ]
      refine wpAnyH_take (i := 5) (v := (.slice (some ⟨gb, ob, none⟩) n bc)) rfl (by kernel_rfl) (by kernel_rfl) (by kernel_rfl) (fun _ _ _ h => h) (Or.inl ⟨by rfl, fun W hS => by go_simp⟩) hH ?_
      simp only [Act.put, List.getElem_toArray, List.getElem_cons_succ, List.getElem_cons_zero, List.setIfInBounds_toArray, List.set_cons_zero, List.set_cons_succ]
      refine wpAnyH_take (i := 6) (v := (.int .i64 k)) rfl (by kernel_rfl) (by kernel_rfl) (by kernel_rfl) (fun _ _ _ h => h) (Or.inl ⟨by rfl, fun W hS => by go_simp⟩) hH ?_
      simp only [Act.put, List.getElem_toArray, List.getElem_cons_succ, List.getElem_cons_zero, List.setIfInBounds_toArray, List.set_cons_zero, List.set_cons_succ]
      refine wpAnyH_take (i := 7) (v := (.pointer (some ⟨gb, ob + k * 39, none⟩))) rfl (by kernel_rfl) (by kernel_rfl) (by kernel_rfl) (fun _ _ _ h => h) (Or.inl ⟨by rfl, fun W hS => by go_simp⟩) hH ?_
      simp only [Act.put, List.getElem_toArray, List.getElem_cons_succ, List.getElem_cons_zero, List.setIfInBounds_toArray, List.set_cons_zero, List.set_cons_succ]
      refine wpAnyH_take (i := 8) (v := (.pointer (some ⟨gb, ob + k * 39 + 36, none⟩))) rfl (by kernel_rfl) (by kernel_rfl) (by kernel_rfl) (fun _ _ _ h => h) (Or.inl ⟨by rfl, fun W hS => by go_simp⟩) hH ?_
      simp only [Act.put, List.getElem_toArray, List.getElem_cons_succ, List.getElem_cons_zero, List.setIfInBounds_toArray, List.set_cons_zero, List.set_cons_succ]
      refine wpAnyH_take (i := 9) (v := (.int .u64 ky)) rfl (by kernel_rfl) (by kernel_rfl) (by kernel_rfl) (fun _ _ _ h => h) (Or.inl ⟨by rfl, fun W hS => by have c := hS.2.1; go_simp⟩) hH ?_
      simp only [Act.put, List.getElem_toArray, List.getElem_cons_succ, List.getElem_cons_zero, List.setIfInBounds_toArray, List.set_cons_zero, List.set_cons_succ]
      refine wpAnyH_take (i := 10) (v := (.bool false)) rfl (by kernel_rfl) (by kernel_rfl) (by kernel_rfl) (fun _ _ _ h => h) (Or.inl ⟨by rfl, fun W hS => by go_simp⟩) hH ?_
      simp only [Act.put, List.getElem_toArray, List.getElem_cons_succ, List.getElem_cons_zero, List.setIfInBounds_toArray, List.set_cons_zero, List.set_cons_succ]
      refine wpAnyH_take (i := 11) (v := (.bool false)) rfl (by kernel_rfl) (by kernel_rfl) (by kernel_rfl) (fun _ _ _ h => h) (Or.inl ⟨by rfl, fun W hS => by go_simp⟩) hH ?_
      simp only [Act.put, List.getElem_toArray, List.getElem_cons_succ, List.getElem_cons_zero, List.setIfInBounds_toArray, List.set_cons_zero, List.set_cons_succ]
      refine wpAnyH_take (i := 12) (v := (.slice (some ⟨ga, oa, none⟩) n ac)) rfl (by kernel_rfl) (by kernel_rfl) (by kernel_rfl) (fun _ _ _ h => h) (Or.inl ⟨by rfl, fun W hS => by go_simp⟩) hH ?_
      simp only [Act.put, List.getElem_toArray, List.getElem_cons_succ, List.getElem_cons_zero, List.setIfInBounds_toArray, List.set_cons_zero, List.set_cons_succ]
      refine wpAnyH_take (i := 13) (v := (.int .i64 k)) rfl (by kernel_rfl) (by kernel_rfl) (by kernel_rfl) (fun _ _ _ h => h) (Or.inl ⟨by rfl, fun W hS => by go_simp⟩) hH ?_
      simp only [Act.put, List.getElem_toArray, List.getElem_cons_succ, List.getElem_cons_zero, List.setIfInBounds_toArray, List.set_cons_zero, List.set_cons_succ]
      refine wpAnyH_take (i := 14) (v := (.pointer (some ⟨ga, oa + k * 39, none⟩))) rfl (by kernel_rfl) (by kernel_rfl) (by kernel_rfl) (fun _ _ _ h => h) (Or.inl ⟨by rfl, fun W hS => by go_simp⟩) hH ?_
      simp only [Act.put, List.getElem_toArray, List.getElem_cons_succ, List.getElem_cons_zero, List.setIfInBounds_toArray, List.set_cons_zero, List.set_cons_succ]
      refine wpAnyH_take (i := 15) (v := (.pointer (some ⟨ga, oa + k * 39 + 4, none⟩))) rfl (by kernel_rfl) (by kernel_rfl) (by kernel_rfl) (fun _ _ _ h => h) (Or.inl ⟨by rfl, fun W hS => by go_simp⟩) hH ?_
      simp only [Act.put, List.getElem_toArray, List.getElem_cons_succ, List.getElem_cons_zero, List.setIfInBounds_toArray, List.set_cons_zero, List.set_cons_succ]
      refine wpAnyH_take (i := 16) (v := (.agg (Lib.byteCells x).toArray)) rfl (by kernel_rfl) (by kernel_rfl) (by kernel_rfl) (fun _ _ _ h => h) (yieldsIf_load_mid (by rfl) 25 _ rfl ga (oa + k * 39 + 4) rfl (Lib.byteCells x) _ (fun W h => h.2.2.1) Tryd.underlying25 rfl (sizeH _ (by rw [Lib.byteCells_length, hxl.out]))) hH ?_
      simp only [Act.put, List.getElem_toArray, List.getElem_cons_succ, List.getElem_cons_zero, List.setIfInBounds_toArray, List.set_cons_zero, List.set_cons_succ]
      refine wpAnyH_take (i := 17) (v := (.slice (some ⟨gb, ob, none⟩) n bc)) rfl (by kernel_rfl) (by kernel_rfl) (by kernel_rfl) (fun _ _ _ h => h) (Or.inl ⟨by rfl, fun W hS => by go_simp⟩) hH ?_
      simp only [Act.put, List.getElem_toArray, List.getElem_cons_succ, List.getElem_cons_zero, List.setIfInBounds_toArray, List.set_cons_zero, List.set_cons_succ]
      refine wpAnyH_take (i := 18) (v := (.int .i64 k)) rfl (by kernel_rfl) (by kernel_rfl) (by kernel_rfl) (fun _ _ _ h => h) (Or.inl ⟨by rfl, fun W hS => by go_simp⟩) hH ?_
      simp only [Act.put, List.getElem_toArray, List.getElem_cons_succ, List.getElem_cons_zero, List.setIfInBounds_toArray, List.set_cons_zero, List.set_cons_succ]
      refine wpAnyH_take (i := 19) (v := (.pointer (some ⟨gb, ob + k * 39, none⟩))) rfl (by kernel_rfl) (by kernel_rfl) (by kernel_rfl) (fun _ _ _ h => h) (Or.inl ⟨by rfl, fun W hS => by go_simp⟩) hH ?_
      simp only [Act.put, List.getElem_toArray, List.getElem_cons_succ, List.getElem_cons_zero, List.setIfInBounds_toArray, List.set_cons_zero, List.set_cons_succ]
      refine wpAnyH_take (i := 20) (v := (.pointer (some ⟨gb, ob + k * 39 + 4, none⟩))) rfl (by kernel_rfl) (by kernel_rfl) (by kernel_rfl) (fun _ _ _ h => h) (Or.inl ⟨by rfl, fun W hS => by go_simp⟩) hH ?_
      simp only [Act.put, List.getElem_toArray, List.getElem_cons_succ, List.getElem_cons_zero, List.setIfInBounds_toArray, List.set_cons_zero, List.set_cons_succ]
      refine wpAnyH_take (i := 21) (v := (.agg (Lib.byteCells x).toArray)) rfl (by kernel_rfl) (by kernel_rfl) (by kernel_rfl) (fun _ _ _ h => h) (yieldsIf_load_mid (by rfl) 25 _ rfl gb (ob + k * 39 + 4) rfl (Lib.byteCells x) _ (fun W h => h.2.2.2) Tryd.underlying25 rfl (sizeH _ (by rw [Lib.byteCells_length, hxl.out]))) hH ?_
      simp only [Act.put, List.getElem_toArray, List.getElem_cons_succ, List.getElem_cons_zero, List.setIfInBounds_toArray, List.set_cons_zero, List.set_cons_succ]
      refine wpAnyH_take (i := 22) (v := (.bool false)) rfl (by kernel_rfl) (by kernel_rfl) (by kernel_rfl) (fun _ _ _ h => h) (yieldsIf_neq_flat (by rfl) 25 _ _ _ (by rfl) (Lib.byteCells x) (Lib.byteCells x) kHash (by rfl) (by rfl) hash_flat HFx.out HFx.out rfl (by kernel_rfl) HVV.out) hH ?_
      simp only [Act.put, List.getElem_toArray, List.getElem_cons_succ, List.getElem_cons_zero, List.setIfInBounds_toArray, List.set_cons_zero, List.set_cons_succ]
      refine wpAnyH_take (i := 23) (v := (.bool false)) rfl (by kernel_rfl) (by kernel_rfl) (by kernel_rfl) (fun _ _ _ h => h) (Or.inl ⟨by rfl, fun W hS => by go_simp⟩) hH ?_
      simp only [Act.put, List.getElem_toArray, List.getElem_cons_succ, List.getElem_cons_zero, List.setIfInBounds_toArray, List.set_cons_zero, List.set_cons_succ]
      refine wpAnyH_done (by kernel_rfl) ?_ _
      go_wp2_with fail
      exact ⟨⟨k + 1, by omega, by go_num, Lib.grownBy_trans Hg.out (dr_grown _ 1)⟩, by simp [intOf]; omega⟩
    · obtain rfl : k = n := by omega
      go_wp2_with fail
      go_ret
      exact ⟨rfl, Hg.out⟩

/-! two tallies side by side -/
/-- the blocks of a tally are not in S -/
def Apart (p bm bs : Nat) (sv tv : Value) (S : Nat → Prop) : Prop := ¬ S p ∧ ¬ S bm ∧ ¬ S bs ∧ (∀ g, sv.ownBlock = some g → ¬ S g) ∧ ∀ g, tv.ownBlock = some g → ¬ S g
structure TwoT (w0 w : World) (p1 m1 s1 : Nat) (v1 t1 : Value) (A : TD) (p2 m2 s2 : Nat) (v2 t2 : Value) (B : TD) : Prop where
  g : w0.grownBy w none
  r1 : TlRep w p1 m1 s1 v1 t1 A
  r2 : TlRep w p2 m2 s2 v2 t2 B
  l1 : w0.heap.size ≤ p1 ∧ w0.heap.size ≤ m1 ∧ w0.heap.size ≤ s1 ∧ ∀ g, t1.ownBlock = some g → w0.heap.size ≤ g
  l2 : w0.heap.size ≤ p2 ∧ w0.heap.size ≤ m2 ∧ w0.heap.size ≤ s2 ∧ ∀ g, t2.ownBlock = some g → w0.heap.size ≤ g
  d1 : Apart p1 m1 s1 v1 t1 (TlB p2 m2 s2 t2)
  d2 : Apart p2 m2 s2 v2 t2 (TlB p1 m1 s1 t1)
section
variable {w0 w w' : World} {p1 m1 s1 p2 m2 s2 : Nat} {v1 t1 v2 t2 : Value} {A B : TD}
theorem TwoT.swap (h : TwoT w0 w p1 m1 s1 v1 t1 A p2 m2 s2 v2 t2 B) : TwoT w0 w p2 m2 s2 v2 t2 B p1 m1 s1 v1 t1 A := ⟨h.g, h.r2, h.r1, h.l2, h.l1, h.d2, h.d1⟩
theorem TwoT.grown (h : TwoT w0 w p1 m1 s1 v1 t1 A p2 m2 s2 v2 t2 B) (hg : w.grownBy w' none) : TwoT w0 w' p1 m1 s1 v1 t1 A p2 m2 s2 v2 t2 B :=
  ⟨Lib.grownBy_trans h.g hg, h.r1.grown hg, h.r2.grown hg, h.l1, h.l2, h.d1, h.d2⟩
theorem TlRep.lt {w : World} {p bm bs : Nat} {sv tv : Value} {T : TD} (h : TlRep w p bm bs sv tv T) : p < w.heap.size ∧ bm < w.heap.size ∧ bs < w.heap.size ∧ (∀ g, sv.ownBlock = some g → g < w.heap.size) ∧ ∀ g, tv.ownBlock = some g → g < w.heap.size := by
  obtain ⟨_, _, _, hD, _⟩ := h.votes
  obtain ⟨_, _, _, hE, _⟩ := h.sums
  refine ⟨h.blk.lt, hD.lt, hE.lt, fun g hg => ?_, fun g hg => ownsRow.lt h.twice hg⟩
  obtain ⟨ao, q, rfl, _, _, _, ⟨rfl, _⟩ | ⟨g', o, rfl, hlt, _⟩⟩ := h.set
  · simp [Value.ownBlock] at hg
  · simp [Value.ownBlock] at hg; omega
theorem TwoT.add (h : TwoT w0 w p1 m1 s1 v1 t1 A p2 m2 s2 v2 t2 B) {v : VoteD} (hA : A.ok) (hv : v.wf) (hsm : A.cnt.length ≤ 1000 ∧ A.both.length ≤ 2000) (hR : RowAt w 0 0 (wCells rootsL)) :
    Calls Tryd.prog 20 #[.pointer (some ⟨p1, 0, none⟩), .agg v.cells.toArray] w fun e w' => e = .returned (.int .i64 (A.add v).2) ∧ ∃ t1', TwoT w0 w' p1 m1 s1 v1 t1' (A.add v).1 p2 m2 s2 v2 t2 B := by
  refine (Add_ok hA hv h.r1 hsm hR).mono ?_
  rintro e w' ⟨rfl, k, t1', r1, ht⟩
  have hlt := h.r2.lt
  have hsz := h.g.size
  have n1 : ∀ g, t1'.ownBlock = some g → t1.ownBlock = some g ∨ w.heap.size ≤ g := fun g hg => by
    rcases ht with e | e
    · exact .inl (e ▸ hg)
    · exact .inr (e g hg)
  refine ⟨rfl, t1', ⟨?_, r1, ?_, ?_, h.l2, ?_, ?_⟩⟩
  · refine Kp.grown ((Kp.still h.g).trans k (S := fun _ => False) (fun i hi hx => ?_)) (fun _ _ => id)
    rcases hx with hx | hx | hx | hx
    · have := h.l1.1; omega
    · have := h.l1.2.1; omega
    · have := h.l1.2.2.1; omega
    · have := h.l1.2.2.2 i hx; omega
  · exact h.r2.kp k h.d2.1 h.d2.2.1 h.d2.2.2.1 h.d2.2.2.2.1 h.d2.2.2.2.2
  · refine ⟨h.l1.1, h.l1.2.1, h.l1.2.2.1, fun g hg => ?_⟩
    rcases n1 g hg with e | e
    · exact h.l1.2.2.2 g e
    · omega
  · refine ⟨h.d1.1, h.d1.2.1, h.d1.2.2.1, h.d1.2.2.2.1, fun g hg => ?_⟩
    rcases n1 g hg with e | e
    · exact h.d1.2.2.2.2 g e
    · rintro (hx | hx | hx | hx)
      · omega
      · omega
      · omega
      · have := hlt.2.2.2.2 g hx; omega
  · have key : ∀ q, ¬ TlB p1 m1 s1 t1 q → q < w.heap.size → ¬ TlB p1 m1 s1 t1' q := fun q hq hl hx => by
      rcases hx with hx | hx | hx | hx
      · exact hq (.inl hx)
      · exact hq (.inr (.inl hx))
      · exact hq (.inr (.inr (.inl hx)))
      · rcases n1 q hx with e | e
        · exact hq (.inr (.inr (.inr e)))
        · omega
    exact ⟨key _ h.d2.1 hlt.1, key _ h.d2.2.1 hlt.2.1, key _ h.d2.2.2.1 hlt.2.2.1, fun g hg => key g (h.d2.2.2.2.1 g hg) (hlt.2.2.2.1 g hg), fun g hg => key g (h.d2.2.2.2.2 g hg) (hlt.2.2.2.2 g hg)⟩
/-- two that are new -/
theorem TwoT.new {w1 w2 : World} (g1 : w0.grownBy w1 none) (g2 : w1.grownBy w2 none) (r1 : TlRep w1 p1 m1 s1 v1 (.slice none 0 0) A) (r2 : TlRep w2 p2 m2 s2 v2 (.slice none 0 0) B) (a1 : w0.heap.size ≤ p1) (a2 : w0.heap.size ≤ m1) (a3 : w0.heap.size ≤ s1)
    (b1 : w1.heap.size ≤ p2) (b2 : w1.heap.size ≤ m2) (b3 : w1.heap.size ≤ s2) (b4 : ∀ g, v2.ownBlock = some g → w1.heap.size ≤ g) : TwoT w0 w2 p1 m1 s1 v1 (.slice none 0 0) A p2 m2 s2 v2 (.slice none 0 0) B := by
  have hlt := r1.lt
  have r1' := r1.grown g2
  have hs := g1.size
  have nb : ∀ g, (Value.slice none 0 0).ownBlock = some g → False := fun g hg => by simp [Value.ownBlock] at hg
  refine ⟨Lib.grownBy_trans g1 g2, r1', r2, ⟨a1, a2, a3, fun g hg => (nb g hg).elim⟩, ⟨by omega, by omega, by omega, fun g hg => (nb g hg).elim⟩, ?_, ?_⟩
  · have key : ∀ q, q < w1.heap.size → ¬ TlB p2 m2 s2 (.slice none 0 0) q := fun q hq hx => by
      rcases hx with hx | hx | hx | hx
      · omega
      · omega
      · omega
      · exact nb q hx
    exact ⟨key _ hlt.1, key _ hlt.2.1, key _ hlt.2.2.1, fun g hg => key g (hlt.2.2.2.1 g hg), fun g hg => (nb g hg).elim⟩
  · have key : ∀ q, w1.heap.size ≤ q → ¬ TlB p1 m1 s1 (.slice none 0 0) q := fun q hq hx => by
      rcases hx with hx | hx | hx | hx
      · omega
      · omega
      · omega
      · exact nb q hx
    exact ⟨key _ b1, key _ b2, key _ b3, fun g hg => key g (b4 g hg), fun g hg => (nb g hg).elim⟩
end
open Go.RowKit
open Go.Maps (Keyed)

theorem own_sl {w : World} {B k n : Nat} {e : TypeId} {v : Value} {cs : List Value} (h : w.ownsRow B e k v n cs) : ∃ a c, v = .slice a n c := by
  rcases h.2 with ⟨rfl, rfl⟩ | ⟨g, cap, cur, rfl, _⟩
  · exact ⟨_, _, rfl⟩
  · exact ⟨_, _, rfl⟩
/-! the commit, or none -/
def zeroC : CommitD := ⟨0, 0, List.replicate 32 0, []⟩
def TD.comC (T : TD) : CommitD := T.commit.getD zeroC
def TD.comE (T : TD) : Int := if T.commit.isSome then 0 else 158
theorem CommitU {w : World} {p bm bs : Nat} {sv tv : Value} {T : TD} (hT : T.ok) (h : TlRep w p bm bs sv tv T) (hsz : T.cnt.length ≤ 1000) :
    Calls Tryd.prog 30 #[.pointer (some ⟨p, 0, none⟩)] w fun e w' => ∃ cs, e = .returned (.tuple #[.agg cs.toArray, .int .i64 T.comE]) ∧ T.comC.own w.heap.size w' cs ∧ w.grownBy w' none := by
  refine (CommitT hT h hsz).mono ?_
  rintro e w' ⟨g, hr⟩
  unfold TD.comC TD.comE
  cases hc : T.commit with
  | none =>
    rw [hc] at hr
    exact ⟨_, hr, ⟨.slice none 0 0, ⟨rfl, .inl ⟨rfl, rfl⟩⟩, rfl⟩, g⟩
  | some c =>
    rw [hc] at hr
    obtain ⟨cs, h1, h2⟩ := hr
    exact ⟨cs, h1, h2, g⟩
theorem comC_wf {T : TD} (h : T.ok) : T.comC.wf := by
  unfold TD.comC
  cases hc : T.commit with
  | none => exact ⟨by unfold i64R zeroC; decide, by unfold i64R zeroC; decide, by simp [zeroC], by simp [zeroC]⟩
  | some c => exact commit_wf h hc
theorem comC_len (T : TD) : T.comC.seals.length ≤ T.cnt.length := by
  unfold TD.comC
  cases hc : T.commit with
  | none => exact Nat.zero_le _
  | some c => exact commit_len hc
/-- what two tallies have in common -/
structure SameT (A B : TD) : Prop where
  pow : ∀ x, A.pow x = B.pow x
  win : A.win = B.win
  block : A.comC.block = B.comC.block
  keys : A.comC.seals.map (·.key) = B.comC.seals.map (·.key)
  err : A.comE = B.comE
  votes : A.votes.map kb = B.votes.map kb
theorem same_of {T0 A B : TD} {l m : List VoteD} (hA : A.ok) (hB : B.ok) (iA : InvO T0 A l) (iB : InvO T0 B m) (hlm : ∀ u, u ∈ l ↔ u ∈ m) (bA : A.both = []) (bB : B.both = []) : SameT A B := by
  have hw := win_same hA hB iA iB hlm bA bB
  have hof : A.of = B.of := iA.of.trans iB.of.symm
  have hc : (A.commit = none ∧ B.commit = none) ∨ ∃ x, A.commit = some ⟨A.of.height, A.of.round, x, sealsOf A.votes x⟩ ∧ B.commit = some ⟨B.of.height, B.of.round, x, sealsOf B.votes x⟩ := by
    unfold TD.commit
    rw [← hw, hof]
    cases A.win with
    | none => exact .inl ⟨rfl, rfl⟩
    | some x =>
      dsimp only
      split
      · exact .inl ⟨rfl, rfl⟩
      · split
        · exact .inr ⟨x, rfl, rfl⟩
        · exact .inl ⟨rfl, rfl⟩
  refine ⟨pow_same hA hB iA iB hlm bA bB, hw, ?_, ?_, ?_, votes_same hA hB iA iB hlm bA bB⟩
  · unfold TD.comC; rcases hc with ⟨h1, h2⟩ | ⟨x, h1, h2⟩ <;> rw [h1, h2] <;> rfl
  · unfold TD.comC
    rcases hc with ⟨h1, h2⟩ | ⟨x, h1, h2⟩
    · rw [h1, h2]
    · rw [h1, h2]; exact seals_same hA hB iA iB hlm bA bB x
  · unfold TD.comE; rcases hc with ⟨h1, h2⟩ | ⟨x, h1, h2⟩ <;> rw [h1, h2] <;> rfl
theorem fold_same {T0 : TD} (hT : T0.ok) (h0 : T0.cnt = []) (l : List VoteD) (hw : ∀ v ∈ l, v.wf) : (addAll T0 l).ok ∧ (addAll T0 l.reverse).ok ∧ (addAll T0 l).all = (addAll T0 l.reverse).all ∧ ((addAll T0 l).both = [] → (addAll T0 l.reverse).both = [] → SameT (addAll T0 l) (addAll T0 l.reverse)) := by
  have hw' : ∀ v ∈ l.reverse, v.wf := fun v hv => hw v (by simpa using hv)
  have iA := invO_all hT l [] T0 hT (invO_nil h0) hw
  have iB := invO_all hT l.reverse [] T0 hT (invO_nil h0) hw'
  rw [List.nil_append] at iA iB
  have oA := addAll_ok hT l hw; have oB := addAll_ok hT l.reverse hw'
  have hlm : ∀ u, u ∈ l ↔ u ∈ l.reverse := by simp
  exact ⟨oA, oB, all_same oA oB iA iB hlm, same_of oA oB iA iB hlm⟩

set_option maxHeartbeats 16000000 in
theorem TallyOrder_any (sv : Value) (ds : List ValD) (chain : ByteArray) (h r t : Int) (lv : Value) (l : List VoteD) (w : World) (hr : RdS w.heap.size w sv ds.length 2 (setCells ds)) (hch : chain.size ≤ maxLen) (hh : i64R h) (hrr : i64R r) (ht : i64R t)
    (hl : RdS w.heap.size w lv l.length 39 (voteCells l)) (hw : ∀ v ∈ l, v.wf) (hR : RowAt w 0 0 (wCells rootsL)) :
    Calls Tryd.prog 6 #[.agg #[sv, .string chain, .int .i64 h, .int .i64 r, .int .i64 t], lv] w fun e w' => e = .returned (.bool true) ∧ Below w.heap.size w w' := by
  have HRD := Lib.hid hr; have HR := Lib.hid hR; have HLw := Lib.hid hw; have HLR := Lib.hid hl
  have HFw := Lib.hid (forV_wf chain h r t hch hh hrr ht)
  obtain ⟨va, vc, rfl⟩ := hr.shape
  have hlen := hr.le; have hlen2 := hl.le
  obtain ⟨la, lc, rfl⟩ := hl.shape
  unfold maxLen at hlen hlen2
  have HM := Lib.hid hlen; have HM2 := Lib.hid hlen2
  clear hr hR hw hl hch hh hrr ht hlen hlen2
  go_enter Tryd.func6, Tryd.ntmps6
  go_wp2_with (first | (refine wpList_box_as rfl 40 _ rfl [.slice va ds.length vc, .string chain, .int .i64 h, .int .i64 r, .int .i64 t] rfl ?_))
  intro w1 b1 g1 s1
  obtain ⟨b, hb⟩ : ∃ b, w.heap.size = b := ⟨_, rfl⟩
  have HB := Lib.hid hb
  rw [hb] at b1 s1 ⊢
  have B1 := Lib.hid b1; have G1 := Lib.hid g1
  clear b1 g1 s1 hb
  have c0 := B1.out.row 0 _ rfl; have c1 := B1.out.row 1 _ rfl; have c2 := B1.out.row 2 _ rfl; have c3 := B1.out.row 3 _ rfl; have c4 := B1.out.row 4 _ rfl
  rw [Nat.zero_add] at c0 c1 c2 c3 c4
  have hl63 := HM.out
  cases h1 : decide ((30 : Int) < (ds.length : Int)) with
  | true =>
    go_wp2_with fail
    refine (alive9_ok w1 (HR.out.grown G1.out (by simp))).mono ?_
    rintro e w2 ⟨rfl, g2⟩
    have G2 := Lib.hid (Lib.grownBy_trans G1.out g2)
    clear g2
    go_wp2_with fail
    go_ret
    exact ⟨rfl, below_g G2.out⟩
  | false =>
    cases h2 : decide ((30 : Int) < (l.length : Int)) with
    | true =>
      go_wp2_with fail
      refine (alive9_ok w1 (HR.out.grown G1.out (by simp))).mono ?_
      rintro e w2 ⟨rfl, g2⟩
      have G2 := Lib.hid (Lib.grownBy_trans G1.out g2)
      clear g2
      go_wp2_with fail
      go_ret
      exact ⟨rfl, below_g G2.out⟩
    | false =>
      have HL30 := Lib.hid (show l.length ≤ 30 by have := of_decide_eq_false h2; omega)
      cases hri : rightL ds with
      | false =>
        have CN := Lib.hid (fun W (g : w.grownBy W none) => New_no (.slice va ds.length vc) ds chain h r t W (HRD.out.grown g) hri)
        clear hri
        go_wp2_with fail
        refine (CN.out w1 G1.out).mono ?_
        rintro e w2 ⟨rfl, g2⟩
        have B2 := Lib.hid (B1.out.grown g2 (by simp)); have G2 := Lib.hid (Lib.grownBy_trans G1.out g2)
        clear g2 B1 G1 c0 c1 c2 c3 c4
        have c0 := B2.out.row 0 _ rfl; have c1 := B2.out.row 1 _ rfl; have c2 := B2.out.row 2 _ rfl; have c3 := B2.out.row 3 _ rfl; have c4 := B2.out.row 4 _ rfl
        rw [Nat.zero_add] at c0 c1 c2 c3 c4
        go_wp2_with fail
        refine (CN.out w2 G2.out).mono ?_
        rintro e w3 ⟨rfl, g3⟩
        have G3 := Lib.hid (Lib.grownBy_trans G2.out g3)
        clear g3 CN
        go_wp2_with fail
        refine (alive9_ok w3 (HR.out.grown G3.out (by simp))).mono ?_
        rintro e w4 ⟨rfl, g4⟩
        have G4 := Lib.hid (Lib.grownBy_trans G3.out g4)
        clear g4
        go_wp2_with fail
        go_ret
        exact ⟨rfl, below_g G4.out⟩
      | true =>
        cases hfo : okVote (forV chain h r t) with
        | false =>
          have CN := Lib.hid (fun W (g : w.grownBy W none) => New_form (.slice va ds.length vc) ds chain h r t W (HRD.out.grown g) hri HFw.out hfo)
          clear hri hfo
          go_wp2_with fail
          refine (CN.out w1 G1.out).mono ?_
          rintro e w2 ⟨rfl, g2⟩
          have B2 := Lib.hid (B1.out.grown g2 (by simp)); have G2 := Lib.hid (Lib.grownBy_trans G1.out g2)
          clear g2 B1 G1 c0 c1 c2 c3 c4
          have c0 := B2.out.row 0 _ rfl; have c1 := B2.out.row 1 _ rfl; have c2 := B2.out.row 2 _ rfl; have c3 := B2.out.row 3 _ rfl; have c4 := B2.out.row 4 _ rfl
          rw [Nat.zero_add] at c0 c1 c2 c3 c4
          go_wp2_with fail
          refine (CN.out w2 G2.out).mono ?_
          rintro e w3 ⟨rfl, g3⟩
          have G3 := Lib.hid (Lib.grownBy_trans G2.out g3)
          clear g3 CN
          go_wp2_with fail
          refine (alive9_ok w3 (HR.out.grown G3.out (by simp))).mono ?_
          rintro e w4 ⟨rfl, g4⟩
          have G4 := Lib.hid (Lib.grownBy_trans G3.out g4)
          clear g4
          go_wp2_with fail
          go_ret
          exact ⟨rfl, below_g G4.out⟩
        | true =>
          have CN := Lib.hid (fun W (g : w.grownBy W none) => NewT (.slice va ds.length vc) ds chain h r t W (HRD.out.grown g) hri HFw.out hfo)
          have HOK := Lib.hid (new_ok hri HFw.out)
          obtain ⟨T0, hT0⟩ : ∃ T, TD.new ds (forV chain h r t) = T := ⟨_, rfl⟩
          have HC0 := Lib.hid (show T0.cnt = [] ∧ T0.both = [] ∧ T0.set = ds by rw [← hT0]; exact ⟨rfl, rfl, rfl⟩)
          rw [hT0] at CN HOK
          clear hri hfo hT0
          go_wp2_with fail
          refine (CN.out w1 G1.out).mono ?_
          rintro e w2 ⟨p1, m1, s1, v1, rfl, g2, r1, a1, a2, a3, _⟩
          have B2 := Lib.hid (B1.out.grown g2 (by simp)); have G2 := Lib.hid (Lib.grownBy_trans G1.out g2); have R1 := Lib.hid r1
          have HA1 := Lib.hid (show w.heap.size ≤ p1 ∧ w.heap.size ≤ m1 ∧ w.heap.size ≤ s1 from by have := G1.out.size; exact ⟨by omega, by omega, by omega⟩)
          clear g2 r1 a1 a2 a3 B1 G1 c0 c1 c2 c3 c4
          have c0 := B2.out.row 0 _ rfl; have c1 := B2.out.row 1 _ rfl; have c2 := B2.out.row 2 _ rfl; have c3 := B2.out.row 3 _ rfl; have c4 := B2.out.row 4 _ rfl
          rw [Nat.zero_add] at c0 c1 c2 c3 c4
          go_wp2_with fail
          refine (CN.out w2 G2.out).mono ?_
          rintro e w3 ⟨p2, m2, s2, v2, rfl, g3, r2, a1, a2, a3, a4⟩
          have TW := Lib.hid (TwoT.new G2.out g3 R1.out r2 HA1.out.1 HA1.out.2.1 HA1.out.2.2 a1 a2 a3 a4)
          clear g3 r2 a1 a2 a3 a4 CN B2 G2 R1 c0 c1 c2 c3 c4 h1 h2
          have hm2 := HM2.out
          go_wp2_with fail
          go_loopw [9] (fun i wr => ∃ (k : Nat) (t1 t2 : Value), k ≤ l.length ∧ i = .int .i64 k ∧ TwoT w wr p1 m1 s1 v1 t1 (addAll T0 (l.take k)) p2 m2 s2 v2 t2 (addAll T0 (l.reverse.take k))) (fun i _ => l.length - (intOf i).toNat)
          case atStart => exact ⟨0, _, _, Nat.zero_le _, rfl, TW.out⟩
          case round =>
            obtain ⟨k, t1, t2, hk, rfl, htw⟩ := hrel
            have Tw := Lib.hid htw
            clear htw TW
            by_cases hlt : k < l.length
            · obtain ⟨gl, ol, cl, hsl, hle, hcm, hgl, hrow⟩ := HLR.out.at_ (by omega)
              injection hsl with e1 _ e3
              subst e1 e3
              unfold maxLen at hcm
              have HROW := Lib.hid (fun W (g : w.grownBy W none) => RowAt.vote (hrow.grown g (by simp)) HLw.out)
              have hkr : k < l.reverse.length := by simpa using hlt
              have hj : l.length - 1 - k < l.length := by omega
              have HA1 := Lib.hid (addAll_take T0 l hlt); have HB1 := Lib.hid (addAll_take T0 l.reverse hkr)
              have OA := Lib.hid (addAll_ok HOK.out (l.take k) (fun v hv => HLw.out v (List.mem_of_mem_take hv)))
              have OB := Lib.hid (addAll_ok HOK.out (l.reverse.take k) (fun v hv => HLw.out v (by simpa using List.mem_of_mem_take hv)))
              have SA := Lib.hid (addAll_size T0 (l.take k)); have SB := Lib.hid (addAll_size T0 (l.reverse.take k))
              obtain ⟨j, hje⟩ : ∃ j, l.length - 1 - k = j := ⟨_, rfl⟩
              have er : l.reverse[k] = l[l.length - 1 - k] := List.getElem_reverse hkr
              obtain ⟨u, hu⟩ : ∃ u, l[l.length - 1 - k] = u := ⟨_, rfl⟩
              obtain ⟨v, hv⟩ : ∃ v, l[k] = v := ⟨_, rfl⟩
              have Hvw := Lib.hid (show v.wf from hv ▸ HLw.out _ (List.getElem_mem hlt)); have Huw := Lib.hid (show u.wf from hu ▸ HLw.out _ (List.getElem_mem hj))
              have RV := Lib.hid (fun W (g : w.grownBy W none) => (show RowAt W gl (ol + k * 39) v.cells from hv ▸ HROW.out W g k hlt))
              have RU := Lib.hid (fun W (g : w.grownBy W none) => (show RowAt W gl (ol + j * 39) u.cells from by have := HROW.out W g (l.length - 1 - k) hj; rw [hu, hje] at this; exact this))
              rw [er, hu] at HB1
              rw [hv] at HA1
              have hji : (l.length : Int) - 1 - k = (j : Int) := by omega
              have hji2 : (l.length : Int) - 1 = ((l.length - 1 : Nat) : Int) := by omega
              have hjl : j < l.length := by omega
              have HJ := Lib.hid hji
              clear er hu hv hrow HROW hje hj hkr hgl hji2
              have CA := Lib.hid (TwoT.add Tw.out OA.out Hvw.out (by
                have h1 := SA.out; have h2 := HL30.out
                rw [HC0.out.1, HC0.out.2.1, List.length_take] at h1
                simp at h1
                omega) (HR.out.grown Tw.out.g (by simp)))
              rw [← HA1.out] at CA
              have RV' := Lib.hid (RV.out _ Tw.out.g)
              go_wp2_with (refine wpList_load_part rfl 29 _ rfl gl (ol + k * 39) rfl v.cells _ RV'.out Tryd.underlying29 rfl (v.size Hvw.out) ?_)
              refine CA.out.mono ?_
              rintro e w5 ⟨rfl, t1', tw5⟩
              have T5 := Lib.hid tw5
              clear tw5 CA Tw RV'
              have CB := Lib.hid (TwoT.add T5.out.swap OB.out Huw.out (by
                have h1 := SB.out; have h2 := HL30.out
                rw [HC0.out.1, HC0.out.2.1, List.length_take] at h1
                simp at h1
                omega) (HR.out.grown T5.out.g (by simp)))
              rw [← HB1.out] at CB
              have RU' := Lib.hid (RU.out _ T5.out.g)
              go_wp2_with (refine wpList_load_part rfl 29 _ rfl gl (ol + j * 39) rfl u.cells _ RU'.out Tryd.underlying29 rfl (u.size Huw.out) ?_)
              refine CB.out.mono ?_
              rintro e w6 ⟨rfl, t2', tw6⟩
              have T6 := Lib.hid tw6.swap
              clear tw6 CB T5 RU'
              go_wp2_with fail
              exact ⟨⟨k + 1, t1', t2', by omega, by go_num, T6.out⟩, by simp [intOf]; omega⟩
            · obtain rfl : k = l.length := by omega
              have hrl : l.reverse.take l.length = l.reverse := List.take_of_length_le (by simp)
              have Tw := Lib.hid (show TwoT w wr p1 m1 s1 v1 t1 (addAll T0 l) p2 m2 s2 v2 t2 (addAll T0 l.reverse) from by have h := Tw.out; rw [List.take_length, hrl] at h; exact h)
              obtain ⟨oA, oB, hall, hsame⟩ := fold_same HOK.out HC0.out.1 l HLw.out
              have sA := addAll_size T0 l; have sB := addAll_size T0 l.reverse
              rw [HC0.out.1, HC0.out.2.1, List.length_nil, Nat.zero_add] at sA sB
              rw [List.length_reverse] at sB
              obtain ⟨A, hA⟩ : ∃ T, addAll T0 l = T := ⟨_, rfl⟩
              obtain ⟨B, hB⟩ : ∃ T, addAll T0 l.reverse = T := ⟨_, rfl⟩
              rw [hA] at oA hall hsame sA Tw
              rw [hB] at oB hall hsame sB Tw
              have OA := Lib.hid oA; have OB := Lib.hid oB; have HAll := Lib.hid hall; have HS := Lib.hid hsame
              have SZ := Lib.hid (show A.cnt.length ≤ 30 ∧ A.both.length ≤ 60 ∧ B.cnt.length ≤ 30 ∧ B.both.length ≤ 60 from by have := HL30.out; exact ⟨by omega, by omega, by omega, by omega⟩)
              clear oA oB hall hsame sA sB hA hB hrl hk
              have CT1 := Lib.hid (TwiceT OA.out Tw.out.r1 (Nat.le_trans SZ.out.2.1 (by decide)))
              go_wp2_with fail
              refine CT1.out.mono ?_
              rintro e w7 ⟨v7, rfl, o7, g7⟩
              have T7 := Lib.hid (Tw.out.grown g7)
              obtain ⟨a7, c7, rfl⟩ := own_sl o7
              clear o7 g7 CT1 Tw hm2 hlt
              obtain ⟨nA, hnA⟩ : ∃ n, A.both.length = n := ⟨_, rfl⟩
              rw [hnA]
              rcases Nat.eq_zero_or_pos nA with hbA | hbA
              rotate_left
              · clear hnA
                go_wp2_with fail
                refine (alive9_ok w7 (HR.out.grown T7.out.g (by simp))).mono ?_
                rintro e wz ⟨rfl, gz⟩
                have Tz := Lib.hid (T7.out.grown gz)
                clear gz
                have CA1 := AllT OA.out Tz.out.r1
                rw [HAll.out] at CA1
                have CA1 := Lib.hid CA1; have CA2 := Lib.hid (AllT OB.out Tz.out.r2)
                go_wp2_with (first | (go_at_call 23; first | (with_reducible refine CA1.out.mono ?_; rintro e w' ⟨rfl, rfl⟩) | (with_reducible refine CA2.out.mono ?_; rintro e w' ⟨rfl, rfl⟩)))
                go_ret
                exact ⟨rfl, below_g Tz.out.g⟩
              · subst hbA
                have HNA := Lib.hid hnA
                clear hnA
                have CT2 := Lib.hid (TwiceT OB.out T7.out.r2 (Nat.le_trans SZ.out.2.2.2 (by decide)))
                go_wp2_with fail
                refine CT2.out.mono ?_
                rintro e w8 ⟨v8, rfl, o8, g8⟩
                have T8 := Lib.hid (T7.out.grown g8)
                obtain ⟨a8, c8, rfl⟩ := own_sl o8
                clear o8 g8 CT2 T7
                obtain ⟨nB, hnB⟩ : ∃ n, B.both.length = n := ⟨_, rfl⟩
                rw [hnB]
                rcases Nat.eq_zero_or_pos nB with hbB | hbB
                rotate_left
                · clear hnB
                  go_wp2_with fail
                  refine (alive9_ok w8 (HR.out.grown T8.out.g (by simp))).mono ?_
                  rintro e wz ⟨rfl, gz⟩
                  have Tz := Lib.hid (T8.out.grown gz)
                  clear gz
                  have CA1 := AllT OA.out Tz.out.r1
                  rw [HAll.out] at CA1
                  have CA1 := Lib.hid CA1; have CA2 := Lib.hid (AllT OB.out Tz.out.r2)
                  go_wp2_with (first | (go_at_call 23; first | (with_reducible refine CA1.out.mono ?_; rintro e w' ⟨rfl, rfl⟩) | (with_reducible refine CA2.out.mono ?_; rintro e w' ⟨rfl, rfl⟩)))
                  go_ret
                  exact ⟨rfl, below_g Tz.out.g⟩
                · subst hbB
                  have bA : A.both = [] := List.length_eq_zero_iff.1 HNA.out
                  have bB : B.both = [] := List.length_eq_zero_iff.1 hnB
                  have S := Lib.hid (HS.out bA bB)
                  clear bA bB hnB
                  have hm2 := HM2.out
                  go_wp2_with fail
                  go_loopw [10] (fun i wr => ∃ k : Nat, k ≤ l.length ∧ i = .int .i64 k ∧ w8.grownBy wr none) (fun i _ => l.length - (intOf i).toNat)
                  case atStart => exact ⟨0, Nat.zero_le _, rfl, gb_refl _⟩
                  case round =>
                    obtain ⟨k, hk, rfl, hg⟩ := hrel
                    have Hg := Lib.hid hg
                    clear hg
                    by_cases hlt : k < l.length
                    · obtain ⟨gl, ol, cl, hsl, hle, hcm, hgl, hrow⟩ := HLR.out.at_ (by omega)
                      injection hsl with e1 _ e3
                      subst e1 e3
                      unfold maxLen at hcm
                      obtain ⟨x, hx⟩ : ∃ x, blkAt l k = x := ⟨_, rfl⟩
                      have hxl := Lib.hid (show x.length = 32 from hx ▸ blkAt_len HLw.out hlt)
                      have KF := Lib.hid (show ∀ W, w8.grownBy W none → RowAt W gl (ol + k * 39 + 4) (Lib.byteCells x) from fun W g => hx ▸ RowAt.voteBlk (hrow.grown (Lib.grownBy_trans T8.out.g g) (by simp)) HLw.out k hlt)
                      clear hrow hx hgl
                      go_upto_region 17 with (fail)
                      have k0 := Lib.hid (Lib.grownBy_trans Hg.out (dr_grown wr 1))
                      have CP1 := PowerT OA.out (T8.out.grown k0.out).r1 x hxl.out
                      rw [S.out.pow x] at CP1
                      obtain ⟨pw, hpw⟩ : ∃ z, B.pow x = z := ⟨_, rfl⟩
                      have HPw := Lib.hid hpw
                      rw [hpw] at CP1
                      have CP1 := Lib.hid CP1
                      clear hpw
                      refine wp_region_held_drew (S := fun W => RowAt W gl (ol + k * 39 + 4) (Lib.byteCells x)) (by kernel_rfl) (KF.out _ k0.out) (fun hH => ?_)
                      refine wpAnyH_take (i := 0) (v := (.pointer (some ⟨p1, 0, none⟩))) rfl (by kernel_rfl) (by kernel_rfl) (by kernel_rfl) (fun _ _ _ h => h) (Or.inl ⟨by rfl, fun W hS => by go_simp⟩) hH ?_
                      simp only [Act.put, List.getElem_toArray, List.getElem_cons_zero, List.setIfInBounds_toArray, List.set_cons_zero, List.set_cons_succ]
                      refine wpAnyH_take (i := 1) (v := (.slice (some ⟨gl, ol, none⟩) l.length lc)) rfl (by kernel_rfl) (by kernel_rfl) (by kernel_rfl) (fun _ _ _ h => h) (Or.inl ⟨by rfl, fun W hS => by go_simp⟩) hH ?_
                      simp only [Act.put, List.getElem_toArray, List.getElem_cons_succ, List.getElem_cons_zero, List.setIfInBounds_toArray, List.set_cons_zero, List.set_cons_succ]
                      refine wpAnyH_take (i := 2) (v := (.int .i64 k)) rfl (by kernel_rfl) (by kernel_rfl) (by kernel_rfl) (fun _ _ _ h => h) (Or.inl ⟨by rfl, fun W hS => by go_simp⟩) hH ?_
                      simp only [Act.put, List.getElem_toArray, List.getElem_cons_succ, List.getElem_cons_zero, List.setIfInBounds_toArray, List.set_cons_zero, List.set_cons_succ]
                      refine wpAnyH_take (i := 3) (v := (.pointer (some ⟨gl, ol + k * 39, none⟩))) rfl (by kernel_rfl) (by kernel_rfl) (by kernel_rfl) (fun _ _ _ h => h) (Or.inl ⟨by rfl, fun W hS => by go_simp⟩) hH ?_
                      simp only [Act.put, List.getElem_toArray, List.getElem_cons_succ, List.getElem_cons_zero, List.setIfInBounds_toArray, List.set_cons_zero, List.set_cons_succ]
                      refine wpAnyH_take (i := 4) (v := (.pointer (some ⟨gl, ol + k * 39 + 4, none⟩))) rfl (by kernel_rfl) (by kernel_rfl) (by kernel_rfl) (fun _ _ _ h => h) (Or.inl ⟨by rfl, fun W hS => by go_simp⟩) hH ?_
                      simp only [Act.put, List.getElem_toArray, List.getElem_cons_succ, List.getElem_cons_zero, List.setIfInBounds_toArray, List.set_cons_zero, List.set_cons_succ]
                      refine wpAnyH_take (i := 5) (v := (.agg (Lib.byteCells x).toArray)) rfl (by kernel_rfl) (by kernel_rfl) (by kernel_rfl) (fun _ _ _ h => h) (yieldsIf_load_mid (by rfl) 25 _ rfl gl (ol + k * 39 + 4) rfl (Lib.byteCells x) _ (fun W h => h) Tryd.underlying25 rfl (sizeH _ (by rw [Lib.byteCells_length, hxl.out]))) hH ?_
                      simp only [Act.put, List.getElem_toArray, List.getElem_cons_succ, List.getElem_cons_zero, List.setIfInBounds_toArray, List.set_cons_zero, List.set_cons_succ]
                      refine wpAnyH_take (i := 7) (v := (.pointer (some ⟨p2, 0, none⟩))) rfl (by kernel_rfl) (by kernel_rfl) (by kernel_rfl) (fun _ _ _ h => h) (Or.inl ⟨by rfl, fun W hS => by go_simp⟩) hH ?_
                      simp only [Act.put, List.getElem_toArray, List.getElem_cons_succ, List.getElem_cons_zero, List.setIfInBounds_toArray, List.set_cons_zero, List.set_cons_succ]
                      refine wpAnyH_take (i := 8) (v := (.slice (some ⟨gl, ol, none⟩) l.length lc)) rfl (by kernel_rfl) (by kernel_rfl) (by kernel_rfl) (fun _ _ _ h => h) (Or.inl ⟨by rfl, fun W hS => by go_simp⟩) hH ?_
                      simp only [Act.put, List.getElem_toArray, List.getElem_cons_succ, List.getElem_cons_zero, List.setIfInBounds_toArray, List.set_cons_zero, List.set_cons_succ]
                      refine wpAnyH_take (i := 9) (v := (.int .i64 k)) rfl (by kernel_rfl) (by kernel_rfl) (by kernel_rfl) (fun _ _ _ h => h) (Or.inl ⟨by rfl, fun W hS => by go_simp⟩) hH ?_
                      simp only [Act.put, List.getElem_toArray, List.getElem_cons_succ, List.getElem_cons_zero, List.setIfInBounds_toArray, List.set_cons_zero, List.set_cons_succ]
                      refine wpAnyH_take (i := 10) (v := (.pointer (some ⟨gl, ol + k * 39, none⟩))) rfl (by kernel_rfl) (by kernel_rfl) (by kernel_rfl) (fun _ _ _ h => h) (Or.inl ⟨by rfl, fun W hS => by go_simp⟩) hH ?_
                      simp only [Act.put, List.getElem_toArray, List.getElem_cons_succ, List.getElem_cons_zero, List.setIfInBounds_toArray, List.set_cons_zero, List.set_cons_succ]
                      refine wpAnyH_take (i := 11) (v := (.pointer (some ⟨gl, ol + k * 39 + 4, none⟩))) rfl (by kernel_rfl) (by kernel_rfl) (by kernel_rfl) (fun _ _ _ h => h) (Or.inl ⟨by rfl, fun W hS => by go_simp⟩) hH ?_
                      simp only [Act.put, List.getElem_toArray, List.getElem_cons_succ, List.getElem_cons_zero, List.setIfInBounds_toArray, List.set_cons_zero, List.set_cons_succ]
                      refine wpAnyH_take (i := 12) (v := (.agg (Lib.byteCells x).toArray)) rfl (by kernel_rfl) (by kernel_rfl) (by kernel_rfl) (fun _ _ _ h => h) (yieldsIf_load_mid (by rfl) 25 _ rfl gl (ol + k * 39 + 4) rfl (Lib.byteCells x) _ (fun W h => h) Tryd.underlying25 rfl (sizeH _ (by rw [Lib.byteCells_length, hxl.out]))) hH ?_
                      simp only [Act.put, List.getElem_toArray, List.getElem_cons_succ, List.getElem_cons_zero, List.setIfInBounds_toArray, List.set_cons_zero, List.set_cons_succ]
                      refine wpAnyH_ready (rs := [6]) (by kernel_rfl) (by simp) ?_
                      refine AllReadyH.cons rfl (fun K hK => ?_) AllReadyH.nil
                      refine step_wanted (by rfl) (wp_call 22 _ _ (by rfl) (enters Tryd.func22 (by kernel_rfl) rfl) (by rfl) (CP1.out) ?_)
                      rintro e u1 ⟨rfl, q1⟩
                      refine ⟨_, rfl, ?_⟩
                      have k1 := Lib.hid (Lib.grownBy_trans k0.out q1)
                      simp only [Act.put, List.getElem_toArray, List.getElem_cons_succ, List.getElem_cons_zero, List.setIfInBounds_toArray, List.set_cons_zero, List.set_cons_succ]
                      refine hK.out _ _ (KF.out _ k1.out) (fun hH => ?_)
                      clear hK K
                      have CP2 := PowerT OB.out (T8.out.grown k1.out).r2 x hxl.out
                      rw [HPw.out] at CP2
                      have CP2 := Lib.hid CP2
                      refine wpAnyH_ready (rs := [13]) (by kernel_rfl) (by simp) ?_
                      refine AllReadyH.cons rfl (fun K hK => ?_) AllReadyH.nil
                      refine step_wanted (by rfl) (wp_call 22 _ _ (by rfl) (enters Tryd.func22 (by kernel_rfl) rfl) (by rfl) (CP2.out) ?_)
                      rintro e u2 ⟨rfl, q2⟩
                      refine ⟨_, rfl, ?_⟩
                      have k2 := Lib.hid (Lib.grownBy_trans k1.out q2)
                      simp only [Act.put, List.getElem_toArray, List.getElem_cons_succ, List.getElem_cons_zero, List.setIfInBounds_toArray, List.set_cons_zero, List.set_cons_succ]
                      refine hK.out _ _ (KF.out _ k2.out) (fun hH => ?_)
                      clear hK K
                      refine wpAnyH_take (i := 14) (v := (.bool false)) rfl (by kernel_rfl) (by kernel_rfl) (by kernel_rfl) (fun _ _ _ h => h) (Or.inl ⟨by rfl, fun W hS => by go_simp⟩) hH ?_
                      simp only [Act.put, List.getElem_toArray, List.getElem_cons_succ, List.getElem_cons_zero, List.setIfInBounds_toArray, List.set_cons_zero, List.set_cons_succ]
                      refine wpAnyH_done (by kernel_rfl) ?_ _
                      go_wp2_with fail
                      exact ⟨⟨k + 1, by omega, by go_num, k2.out⟩, by simp [intOf]; omega⟩
                    · obtain rfl : k = l.length := by omega
                      have T10 := Lib.hid (T8.out.grown Hg.out)
                      clear Hg T8 hm2 hlt hk
                      obtain ⟨z, hz⟩ : ∃ z : List UInt8, z.length = 32 ∧ winC A.win = Lib.byteCells z := by
                        cases hw : A.win with
                        | none => exact ⟨List.replicate 32 0, by simp, rfl⟩
                        | some x => exact ⟨x, win_len OA.out hw, rfl⟩
                      have hzl := Lib.hid hz.1
                      obtain ⟨ok, hok⟩ : ∃ x, A.win.isSome = x := ⟨_, rfl⟩
                      have CW1 := WinnerT OA.out T10.out.r1
                      rw [hz.2, hok] at CW1
                      have HW := Lib.hid (show winC B.win = Lib.byteCells z ∧ B.win.isSome = ok from by rw [← S.out.win]; exact ⟨hz.2, hok⟩)
                      have CW1 := Lib.hid CW1
                      have HFz := Lib.hid (hash_fits _ hzl.out)
                      have HVz := Lib.hid (show VEq (Lib.byteCells z) (Lib.byteCells z) = true by rw [VEq.bytes]; simp)
                      have hz0 := Lib.hid (show (Lib.byteCells z).length = ZH.length by rw [Lib.byteCells_length, hzl.out]; rfl)
                      have hz1 := Lib.hid (sizeH (Lib.byteCells z) (by rw [Lib.byteCells_length, hzl.out]))
                      clear hz hok
                      go_wp2_with fail
                      refine CW1.out.mono ?_
                      rintro e w11 ⟨rfl, g11⟩
                      have T11 := Lib.hid (T10.out.grown g11)
                      clear g11 CW1 T10
                      go_wp2_with (refine wpList_alloc_as rfl 25 rfl ZH ZH_info ?_)
                      intro w12 b12 g12 s12
                      obtain ⟨x1, hx1⟩ : ∃ y, w11.heap.size = y := ⟨_, rfl⟩
                      rw [hx1] at b12 s12 ⊢
                      have Xb := Lib.hid b12; have Xg := Lib.hid g12; have X1 := Lib.hid hx1
                      clear b12 g12 s12 hx1
                      go_wp2_with (refine wpList_store_whole rfl 25 _ _ rfl x1 rfl (Lib.byteCells z) ZH 25 rfl Xb.out hz0.out (oneCell_bytes _) hz1.out ?_)
                      intro w13 g13 s13 b13
                      have T13 := Lib.hid (T11.out.grown (grown_new Xg.out g13 (by rw [X1.out]; exact Nat.le_refl _))); have F1 := Lib.hid b13
                      clear b13 g13 s13 Xb Xg X1 T11
                      have CW2 := WinnerT OB.out T13.out.r2
                      rw [HW.out.1, HW.out.2] at CW2
                      have CW2 := Lib.hid CW2
                      go_wp2_with fail
                      refine CW2.out.mono ?_
                      rintro e w14 ⟨rfl, g14⟩
                      have T14 := Lib.hid (T13.out.grown g14); have F1 := Lib.hid (F1.out.grown g14 (by simp))
                      clear g14 CW2 T13
                      go_wp2_with (refine wpList_alloc_as rfl 25 rfl ZH ZH_info ?_)
                      intro w15 b15 g15 s15
                      obtain ⟨x2, hx2⟩ : ∃ y, w14.heap.size = y := ⟨_, rfl⟩
                      rw [hx2] at b15 s15 ⊢
                      have Xb := Lib.hid b15; have Xg := Lib.hid g15; have X1 := Lib.hid hx2
                      clear b15 g15 s15 hx2
                      go_wp2_with (refine wpList_store_whole rfl 25 _ _ rfl x2 rfl (Lib.byteCells z) ZH 25 rfl Xb.out hz0.out (oneCell_bytes _) hz1.out ?_)
                      intro w16 g16 s16 b16
                      have Gn := Lib.hid (grown_new Xg.out g16 (by rw [X1.out]; exact Nat.le_refl _))
                      have T16 := Lib.hid (T14.out.grown Gn.out); have F2 := Lib.hid b16; have F1 := Lib.hid (F1.out.grown Gn.out (by simp))
                      clear b16 g16 s16 Xb Xg X1 T14 Gn
                      have CU1 := Lib.hid (CommitU OA.out T16.out.r1 (Nat.le_trans SZ.out.1 (by decide)))
                      obtain ⟨er, her⟩ : ∃ x, A.comE = x := ⟨_, rfl⟩
                      have HEr := Lib.hid (show B.comE = er from by rw [← S.out.err]; exact her)
                      rw [her] at CU1
                      clear her
                      go_wp2_with fail
                      refine CU1.out.mono ?_
                      rintro e w17 ⟨cs1, rfl, ⟨sl1, os1, hcs1⟩, g17⟩
                      obtain ⟨d1a, d1c, hsl1⟩ := own_sl os1
                      subst hsl1
                      have wf1 := comC_wf OA.out
                      have hk1 : ∃ h r bl n, cs1 = commitV h r bl (.slice d1a n d1c) ∧ bl = A.comC.block ∧ n = A.comC.seals.length ∧ bl.length = 32 := ⟨_, _, _, _, hcs1, rfl, rfl, wf1.block⟩
                      obtain ⟨h1, r1, bl, nS, hcs1', hbl, hnS, hbll⟩ := hk1
                      have HBl := Lib.hid hbll; have HB1 := Lib.hid hbl; have HN1 := Lib.hid hnS
                      have O1 := Lib.hid (rds_of_own os1)
                      rw [← hnS] at O1
                      clear hcs1
                      subst hcs1'
                      have T17 := Lib.hid (T16.out.grown g17); have F1 := Lib.hid (F1.out.grown g17 (by simp)); have F2 := Lib.hid (F2.out.grown g17 (by simp))
                      clear os1 g17 CU1 T16 wf1 hbl hnS hbll
                      have hc1 := Lib.hid (commitV_len h1 r1 bl (.slice d1a nS d1c) HBl.out)
                      go_wp2_with (refine wpList_alloc_as rfl 54 rfl ZCommit ZCommit_info ?_)
                      intro w18 b18 g18 s18
                      obtain ⟨y1, hy1⟩ : ∃ y, w17.heap.size = y := ⟨_, rfl⟩
                      rw [hy1] at b18 s18 ⊢
                      have Xb := Lib.hid b18; have Xg := Lib.hid g18; have X1 := Lib.hid hy1
                      clear b18 g18 s18 hy1
                      go_wp2_with (refine wpList_store_whole rfl 54 _ _ rfl y1 rfl (commitV h1 r1 bl (.slice d1a nS d1c)) ZCommit 54 rfl Xb.out (by rw [hc1.out]; rfl) (commitV_one _ _ _ _ rfl) (by rw [hc1.out]; exact sizeCommit) ?_)
                      intro w19 g19 s19 b19
                      have Gn := Lib.hid (grown_new Xg.out g19 (by rw [X1.out]; exact Nat.le_refl _))
                      have T19 := Lib.hid (T17.out.grown Gn.out); have F1 := Lib.hid (F1.out.grown Gn.out (by simp)); have F2 := Lib.hid (F2.out.grown Gn.out (by simp)); have Y1 := Lib.hid b19; have O1 := Lib.hid (O1.out.grown Gn.out)
                      clear b19 g19 s19 Xb Xg X1 T17 Gn
                      have CU2 := CommitU OB.out T19.out.r2 (Nat.le_trans SZ.out.2.2.1 (by decide))
                      rw [HEr.out] at CU2
                      have CU2 := Lib.hid CU2
                      go_wp2_with fail
                      refine CU2.out.mono ?_
                      rintro e w20 ⟨cs2, rfl, ⟨sl2, os2, hcs2⟩, g20⟩
                      obtain ⟨d2a, d2c, hsl2⟩ := own_sl os2
                      subst hsl2
                      have hn2 : B.comC.seals.length = nS := by have := congrArg List.length S.out.keys; simp at this; rw [HN1.out]; omega
                      have hk2 : ∃ h r, cs2 = commitV h r bl (.slice d2a nS d2c) := ⟨_, _, by rw [HB1.out, S.out.block, ← hn2]; exact hcs2⟩
                      obtain ⟨h2, r2, hcs2'⟩ := hk2
                      have O2 := Lib.hid (rds_of_own os2)
                      rw [hn2] at O2
                      have HN2 := Lib.hid hn2
                      clear hcs2
                      subst hcs2'
                      have T20 := Lib.hid (T19.out.grown g20); have F1 := Lib.hid (F1.out.grown g20 (by simp)); have F2 := Lib.hid (F2.out.grown g20 (by simp)); have Y1 := Lib.hid (Y1.out.grown g20 (by simp)); have O1 := Lib.hid (O1.out.grown g20)
                      clear os2 g20 CU2 T19 hn2
                      have hc2 := Lib.hid (commitV_len h2 r2 bl (.slice d2a nS d2c) HBl.out)
                      go_wp2_with (refine wpList_alloc_as rfl 54 rfl ZCommit ZCommit_info ?_)
                      intro w21 b21 g21 s21
                      obtain ⟨y2, hy2⟩ : ∃ y, w20.heap.size = y := ⟨_, rfl⟩
                      rw [hy2] at b21 s21 ⊢
                      have Xb := Lib.hid b21; have Xg := Lib.hid g21; have X1 := Lib.hid hy2
                      clear b21 g21 s21 hy2
                      go_wp2_with (refine wpList_store_whole rfl 54 _ _ rfl y2 rfl (commitV h2 r2 bl (.slice d2a nS d2c)) ZCommit 54 rfl Xb.out (by rw [hc2.out]; rfl) (commitV_one _ _ _ _ rfl) (by rw [hc2.out]; exact sizeCommit) ?_)
                      intro w22 g22 s22 b22
                      have Gn := Lib.hid (grown_new Xg.out g22 (by rw [X1.out]; exact Nat.le_refl _))
                      have T22 := Lib.hid (T20.out.grown Gn.out); have F1 := Lib.hid (F1.out.grown Gn.out (by simp)); have F2 := Lib.hid (F2.out.grown Gn.out (by simp)); have Y1 := Lib.hid (Y1.out.grown Gn.out (by simp)); have Y2 := Lib.hid b22; have O1 := Lib.hid (O1.out.grown Gn.out); have O2 := Lib.hid (O2.out.grown Gn.out)
                      clear b22 g22 s22 Xb Xg X1 T20 Gn
                      have HFb := Lib.hid (hash_fits _ HBl.out)
                      have HVb := Lib.hid (show VEq (Lib.byteCells bl) (Lib.byteCells bl) = true by rw [VEq.bytes]; simp)
                      have rb1 := Lib.hid (show RowAt w22 y1 2 (Lib.byteCells bl) from part_of (k := 2) (n := 32) Y1.out.row (by simp [commitV, Lib.byteCells_length, HBl.out]))
                      have rb2 := Lib.hid (show RowAt w22 y2 2 (Lib.byteCells bl) from part_of (k := 2) (n := 32) Y2.out.row (by simp [commitV, Lib.byteCells_length, HBl.out]))
                      have C34 := Lib.hid (show ∀ W, w22.grownBy W none → W.cell? ⟨y1, 34, none⟩ = some (.slice d1a nS d1c) ∧ W.cell? ⟨y2, 34, none⟩ = some (.slice d2a nS d2c) from fun W g => by
                        have e1 := (Y1.out.grown g (by simp)).row 34 _ (commitV_get _ _ _ _ HBl.out)
                        have e2 := (Y2.out.grown g (by simp)).row 34 _ (commitV_get _ _ _ _ HBl.out)
                        rw [Nat.zero_add] at e1 e2
                        exact ⟨e1, e2⟩)
                      have hc34 := C34.out w22 (gb_refl _)
                      have e34a := hc34.1; have e34b := hc34.2
                      have hnm : nS ≤ 1000 := by have h9 := comC_len A; have h8 := SZ.out.1; have h7 := HN1.out; omega
                      clear hc34
                      go_wp2_with (first | (refine wpList_load_part rfl 25 _ rfl y1 2 rfl (Lib.byteCells bl) _ rb1.out Tryd.underlying25 rfl (sizeH _ (by rw [Lib.byteCells_length, HBl.out])) ?_) | (refine wpList_load_part rfl 25 _ rfl y2 2 rfl (Lib.byteCells bl) _ rb2.out Tryd.underlying25 rfl (sizeH _ (by rw [Lib.byteCells_length, HBl.out])) ?_) | (refine wpList_eql_flat rfl 25 _ _ _ rfl (Lib.byteCells bl) (Lib.byteCells bl) kHash rfl rfl hash_flat HFb.out HFb.out rfl (by kernel_rfl) ?_; rw [HVb.out]))
                      clear e34a e34b rb1 rb2
                      go_loopw [19, 20] (fun s i wr => ∃ k : Nat, k ≤ nS ∧ s = .bool true ∧ i = .int .i64 k ∧ w22.grownBy wr none) (fun _ i _ => nS - (intOf i).toNat)
                      case atStart => exact ⟨0, Nat.zero_le _, rfl, rfl, gb_refl _⟩
                      case round =>
                        obtain ⟨k, hk, rfl, rfl, hg⟩ := hrel
                        have Hg := Lib.hid hg
                        clear hg
                        have hc34 := C34.out _ Hg.out
                        have e34a := hc34.1; have e34b := hc34.2
                        clear hc34
                        by_cases hlt : k < nS
                        · obtain ⟨ga, oa, ca, hsa, hle, hcm, _, hrow⟩ := O1.out.at_ (by omega)
                          obtain ⟨gb, ob, cb, hsb, hle2, hcm2, _, hrow2⟩ := O2.out.at_ (by omega)
                          injection hsa with e1 _ e3
                          injection hsb with f1 _ f3
                          subst e1 e3 f1 f3
                          unfold maxLen at hcm hcm2
                          have k1 : k < A.comC.seals.length := by have := HN1.out; omega
                          have k2 : k < B.comC.seals.length := by have := HN2.out; omega
                          have q := Hg.out
                          have s1 := RowAt.elem (hrow.grown q (by simp)) (fun d _ => d.cells_length) k k1 0 _ rfl
                          have s2 := RowAt.elem (hrow2.grown q (by simp)) (fun d _ => d.cells_length) k k2 0 _ rfl
                          have hkk : A.comC.seals[k].key = B.comC.seals[k].key := by
                            have := congrArg (fun l : List Int => l[k]?) S.out.keys
                            simp only [List.getElem?_map, List.getElem?_eq_getElem k1, List.getElem?_eq_getElem k2, Option.map_some, Option.some.injEq] at this
                            exact this
                          obtain ⟨ky, hky⟩ : ∃ x, B.comC.seals[k].key = x := ⟨_, rfl⟩
                          rw [hkk, hky] at s1
                          rw [hky] at s2
                          rw [Nat.add_zero] at s1 s2
                          have S1 := Lib.hid s1; have S2 := Lib.hid s2
                          clear hkk hky hrow hrow2 q s1 s2 k1 k2
                          go_upto_region 27 with (fail)
                          have s1 := S1.out; have s2 := S2.out
                          go_quiet (fail)
                          clear e34a e34b s1 s2
                          go_wp2_with fail
                          exact ⟨⟨k + 1, by omega, rfl, by go_num, Lib.grownBy_trans Hg.out (dr_grown _ _)⟩, by simp [intOf]; omega⟩
                        · obtain rfl : k = nS := by omega
                          have T23 := Lib.hid (T22.out.grown Hg.out); have F1 := Lib.hid (F1.out.grown Hg.out (by simp)); have F2 := Lib.hid (F2.out.grown Hg.out (by simp))
                          have CV1 := Lib.hid (VotesO OA.out T23.out.r1 (Nat.le_trans SZ.out.1 (by decide)))
                          clear T22 Y1 Y2 O1 O2
                          go_wp2_with fail
                          clear e34a e34b
                          refine CV1.out.mono ?_
                          rintro e w24 ⟨vv1, rfl, ov1, g24⟩
                          have T24 := Lib.hid (T23.out.grown g24); have F1 := Lib.hid (F1.out.grown g24 (by simp)); have F2 := Lib.hid (F2.out.grown g24 (by simp)); have V1 := Lib.hid (rds_of_own ov1)
                          obtain ⟨va1, vc1, hvs1⟩ := own_sl ov1
                          subst hvs1
                          clear ov1 g24 CV1 T23
                          have CV2 := Lib.hid (VotesO OB.out T24.out.r2 (Nat.le_trans SZ.out.2.2.1 (by decide)))
                          go_wp2_with fail
                          refine CV2.out.mono ?_
                          rintro e w25 ⟨vv2, rfl, ov2, g25⟩
                          have T25 := Lib.hid (T24.out.grown g25); have F1 := Lib.hid (F1.out.grown g25 (by simp)); have F2 := Lib.hid (F2.out.grown g25 (by simp)); have V1 := Lib.hid ((V1.out.grown g25).mono g25.size); have V2 := Lib.hid (rds_of_own ov2)
                          obtain ⟨va2, vc2, hvs2⟩ := own_sl ov2
                          subst hvs2
                          clear ov2 g25 CV2 T24
                          have CWho := Lib.hid (who_ok _ _ A.votes B.votes w25 V1.out V2.out (fun u hu => OA.out.cnt u ((votes_mem A u).1 hu)) (fun u hu => OB.out.cnt u ((votes_mem B u).1 hu)) S.out.votes)
                          go_wp2_with fail
                          refine CWho.out.mono ?_
                          rintro e w26 ⟨rfl, g26⟩
                          have T26 := Lib.hid (T25.out.grown g26); have F1 := Lib.hid (F1.out.grown g26 (by simp)); have F2 := Lib.hid (F2.out.grown g26 (by simp))
                          clear g26 CWho T25 V1 V2
                          go_wp2_with fail
                          refine (alive9_ok w26 (HR.out.grown T26.out.g (by simp))).mono ?_
                          rintro e w27 ⟨rfl, g27⟩
                          have T27 := Lib.hid (T26.out.grown g27); have F1 := Lib.hid (F1.out.grown g27 (by simp)); have F2 := Lib.hid (F2.out.grown g27 (by simp))
                          clear g27 T26
                          have CA1 := AllT OA.out T27.out.r1
                          rw [HAll.out] at CA1
                          have CA1 := Lib.hid CA1; have CA2 := Lib.hid (AllT OB.out T27.out.r2)
                          go_wp2_with (first | (go_at_call 23; first | (with_reducible refine CA1.out.mono ?_; rintro e w' ⟨rfl, rfl⟩) | (with_reducible refine CA2.out.mono ?_; rintro e w' ⟨rfl, rfl⟩)) | (refine wpList_load_part rfl 25 _ rfl x1 0 rfl (Lib.byteCells z) _ F1.out.row Tryd.underlying25 rfl hz1.out ?_) | (refine wpList_load_part rfl 25 _ rfl x2 0 rfl (Lib.byteCells z) _ F2.out.row Tryd.underlying25 rfl hz1.out ?_) | (refine wpList_eql_flat rfl 25 _ _ _ rfl (Lib.byteCells z) (Lib.byteCells z) kHash rfl rfl hash_flat HFz.out HFz.out rfl (by kernel_rfl) ?_; rw [HVz.out]))
                          go_ret
                          exact ⟨rfl, below_g T27.out.g⟩

end Go.Proofs.YtfnginmoiecgnaaDoor
