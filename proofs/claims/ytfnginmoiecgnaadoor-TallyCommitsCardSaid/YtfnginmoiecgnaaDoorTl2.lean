/- Tallies in memory, and plainly: Add, Power, All, Winner, Any. Walk: nunciolaw09.alive. Plain: one winner: what votes that are added, one by one, do. -/
import Derived.Test.YtfnginmoiecgnaaDoorAdd
namespace Go.Proofs.YtfnginmoiecgnaaDoor
open Go.RowKit
open Go.Maps (Keyed)
set_option maxRecDepth 100000

theorem atKey_has {D : DataW Value} {k : Lit} (h : Maps.has D k = true) (z z' : DataW Value) : D.atKey k z = D.atKey k z' := by
  cases D <;> try (simp [Maps.has] at h; done)
  rename_i es
  have h2 : es.any (fun p => p.1.sameKey k) = true := h
  rw [List.any_eq_true] at h2
  obtain ⟨p, hp, hk⟩ := h2
  unfold DataW.atKey
  dsimp only
  split
  · rfl
  · rename_i hf
    have := List.find?_eq_none.1 hf p hp
    exact absurd hk this

theorem Add_ok {w : World} {p bm bs : Nat} {sv tv : Value} {T : TD} {v : VoteD} (hT : T.ok) (hv : v.wf) (h : TlRep w p bm bs sv tv T) (hsm : T.cnt.length ≤ 1000 ∧ T.both.length ≤ 2000) (hR : RowAt w 0 0 (wCells rootsL)) :
    Calls Tryd.prog 20 #[.pointer (some ⟨p, 0, none⟩), .agg v.cells.toArray] w fun e w' => e = .returned (.int .i64 (T.add v).2) ∧ Kp w w' (TlB p bm bs tv) ∧ ∃ tv', TlRep w' p bm bs sv tv' (T.add v).1 ∧ (tv'.ownBlock = tv.ownBlock ∨ ∀ g, tv'.ownBlock = some g → w.heap.size ≤ g) := by
  have h0 := h
  obtain ⟨hblk, hset, ⟨n, D, hn, hD, hDR⟩, ⟨m, E, hm, hE, hER⟩, htw, pm, ps, ms, sp, tp⟩ := h
  have hd := hDR v.key hv.key
  obtain ⟨old, ho, he⟩ : ∃ old : VoteD, old.wf ∧ (((findK T.cnt v.key).map VoteD.cells).getD ZVote) = old.cells ∧ (∀ o, findK T.cnt v.key = some o → old = o) := by
    cases hf : findK T.cnt v.key with
    | none => exact ⟨zeroV, zeroV_wf, zeroV_cells.symm, by simp⟩
    | some o => exact ⟨o, hT.cnt _ (findK_some hf).1, rfl, by simp⟩
  obtain ⟨he, heo⟩ := he
  rw [he] at hd
  refine (Add_walk p sv T.set (totalL T.set) T.of v old bm bs T.all (T.pow v.block) tv n m T.both.length D E _ _ w hT.of hv ho hblk hset hD hE htw hR ⟨by omega, by omega, hsm.2⟩ hd.1 hd.2 (hER.1 _ hv.block) (fun hs => TD.small hT (by simpa using hs) _) ⟨pm, ps, ms⟩ (fun g hg => (tp g hg).1)).mono ?_
  have hb1 := hblk.lt; have hb2 := hD.lt; have hb3 := hE.lt
  rintro e w' hr
  cases hr with
  | form h1 g =>
    have ea : T.add v = (T, 91) := by unfold TD.add TD.fits; rw [if_pos h1]
    rw [ea]; exact ⟨rfl, Kp.still g, tv, h0.grown g, .inl rfl⟩
  | key h1 h2 g =>
    have ea : T.add v = (T, 92) := by unfold TD.add TD.fits; rw [if_neg (by simp [h1]), if_pos h2]
    rw [ea]; exact ⟨rfl, Kp.still g, tv, h0.grown g, .inl rfl⟩
  | sig h1 h2 h3 g =>
    have ea : T.add v = (T, 93) := by unfold TD.add TD.fits; rw [if_neg (by simp [h1]), if_neg h2, if_pos h3]
    rw [ea]; exact ⟨rfl, Kp.still g, tv, h0.grown g, .inl rfl⟩
  | had h1 h2 h3 h4 h5 g =>
    obtain ⟨o, hf⟩ := Option.isSome_iff_exists.1 h4
    have ea : T.add v = (T, 0) := by
      unfold TD.add TD.fits; rw [if_neg (by simp [h1]), if_neg h2, if_neg (by simp [h3]), hf]
      simp [← heo o hf, h5]
    rw [ea]; exact ⟨rfl, Kp.still g, tv, h0.grown g, .inl rfl⟩
  | twice h1 h2 h3 h4 h5 k g cap b r hg =>
    obtain ⟨o, hf⟩ := Option.isSome_iff_exists.1 h4
    have eo := heo o hf
    subst eo
    have ea : T.add v = ({ T with both := T.both ++ [old, v] }, 94) := by
      unfold TD.add TD.fits; rw [if_neg (by simp [h1]), if_neg h2, if_neg (by simp [h3]), hf]
      simp [h5]
    have eg : (Value.slice (some ⟨g, 0, none⟩) (T.both.length + 2) cap).ownBlock = some g := rfl
    have n1 : ∀ i, i < w.heap.size → (∀ t, tv.ownBlock = some t → t ≠ i) → g ≠ i := fun i hi ht => by rcases hg with hg | hg; exact ht g hg; omega
    have n2 : ∀ (q : Nat), q ≠ p → (∀ t, tv.ownBlock = some t → t ≠ q) → ¬ (q = p ∨ tv.ownBlock = some q) := fun q h1 h2 => by
      rintro (h | h)
      · exact h1 h
      · exact h2 q h rfl
    have nm := n2 bm pm (fun t ht => (tp t ht).2.1); have ns := n2 bs ps (fun t ht => (tp t ht).2.2)
    have nv : ∀ t, sv.ownBlock = some t → ¬ (t = p ∨ tv.ownBlock = some t) := fun t ht => by
      rintro (h | h)
      · exact (sp t ht).1 h
      · exact (sp t ht).2.2.2 h
    have hs' : ∀ t, sv.ownBlock = some t → t < w.heap.size := fun t ht => by
      obtain ⟨ao, c, rfl, _, _, _, ⟨rfl, _⟩ | ⟨g', o, rfl, hlt, _⟩⟩ := hset
      · simp [Value.ownBlock] at ht
      · simp [Value.ownBlock] at ht; omega
    rw [ea]
    refine ⟨rfl, k.mono (fun i _ h => ?_), .slice (some ⟨g, 0, none⟩) (T.both.length + 2) cap, ⟨b, (hset.kp k nv).mono k.size, ⟨n, D, hn, ownsMap.kp hD k nm, hDR⟩, ⟨m, E, hm, ownsMap.kp hE k ns, hER⟩, ?_, pm, ps, ms, fun t ht => ?_, fun t ht => ?_⟩, ?_⟩
    · rcases h with h | h
      · exact .inl h
      · exact .inr (.inr (.inr h))
    · simpa using r
    · obtain ⟨a1, a2, a3, a4⟩ := sp t ht
      refine ⟨a1, a2, a3, fun e => ?_⟩
      rw [eg] at e
      injection e with e
      exact n1 t (hs' t ht) (fun t2 h2 e2 => a4 (by rw [h2, e2])) e
    · rw [eg] at ht
      injection ht with ht
      subst ht
      exact ⟨n1 p hb1 fun t h => (tp t h).1, n1 bm hb2 fun t h => (tp t h).2.1, n1 bs hb3 fun t h => (tp t h).2.2⟩
    · rw [eg]
      rcases hg with hg | hg
      · exact .inl hg.symm
      · exact .inr fun t e => by injection e with e; omega
  | new h1 h2 h3 h4 k b d e =>
    have hf : findK T.cnt v.key = none := by simpa using h4
    have ea : T.add v = ({ T with cnt := T.cnt ++ [v] }, 0) := by
      unfold TD.add TD.fits; rw [if_neg (by simp [h1]), if_neg h2, if_neg (by simp [h3]), hf]
    have en : powsL T.set (T.cnt ++ [v]) = T.all + powL v.key T.set := by rw [powsL_append]; simp [powsL, TD.all]
    have nv : ∀ t, sv.ownBlock = some t → ¬ (t = p ∨ t = bm ∨ t = bs) := fun t ht => by
      obtain ⟨a1, a2, a3, a4⟩ := sp t ht
      rintro (h | h | h) <;> contradiction
    have nt : ∀ t, tv.ownBlock = some t → ¬ (t = p ∨ t = bm ∨ t = bs) := fun t ht => by
      obtain ⟨a1, a2, a3⟩ := tp t ht
      rintro (h | h | h) <;> contradiction
    rw [ea]
    refine ⟨rfl, k.mono (fun i _ h => ?_), tv, ⟨?_, (hset.kp k nv).mono k.size, ⟨n + 1, _, by simp; omega, d, votesR_put hDR hD.isMap hv hf⟩, ⟨m + 1, _, by simp; omega, e, sumsR_put hER hE.isMap hv⟩, ownsRow.kp htw k nt, pm, ps, ms, sp, tp⟩, .inl rfl⟩
    · rcases h with h | h | h
      · exact .inl h
      · exact .inr (.inl h)
      · exact .inr (.inr (.inl h))
    · show Blk w' p (tlCells sv (totalL T.set) T.of bm bs (powsL T.set (T.cnt ++ [v])) tv) _
      rw [en]; exact b

theorem PowerT {w : World} {p bm bs : Nat} {sv tv : Value} {T : TD} (hT : T.ok) (h : TlRep w p bm bs sv tv T) (x : List UInt8) (hx : x.length = 32) :
    Calls Tryd.prog 22 #[.pointer (some ⟨p, 0, none⟩), .agg (Lib.byteCells x).toArray] w fun e w' => e = .returned (.int .i64 (T.pow x)) ∧ w.grownBy w' none := by
  obtain ⟨m, E, hm, hE, hER⟩ := h.sums
  exact Power_ok2 p T.set (totalL T.set) T.of bm bs T.all tv x m E _ w hT.of hx h.at_ hE (hER.1 x hx)
theorem AllT {w : World} {p bm bs : Nat} {sv tv : Value} {T : TD} (hT : T.ok) (h : TlRep w p bm bs sv tv T) :
    Calls Tryd.prog 23 #[.pointer (some ⟨p, 0, none⟩)] w fun e w' => e = .returned (.int .i64 T.all) ∧ w = w' :=
  All_ok p T.set (totalL T.set) T.of bm bs T.all tv w hT.of h.at_

theorem two_blocks {ds : List ValD} (h : ∀ d ∈ ds, 1 ≤ d.power) {x y : List UInt8} (hxy : x ≠ y) : ∀ l : List VoteD, powsL ds (forX l x) + powsL ds (forX l y) ≤ powsL ds l
  | [] => by simp [forX, powsL]
  | u :: l => by
    have ih := two_blocks h hxy l
    have h1 := powL_nonneg h u.key
    have e1 : powsL ds (forX (u :: l) x) = (if u.block = x then powL u.key ds else 0) + powsL ds (forX l x) := by
      by_cases hu : u.block = x <;> simp [forX, powsL, hu]
    have e2 : powsL ds (forX (u :: l) y) = (if u.block = y then powL u.key ds else 0) + powsL ds (forX l y) := by
      by_cases hu : u.block = y <;> simp [forX, powsL, hu]
    have e3 : powsL ds (u :: l) = powL u.key ds + powsL ds l := by simp [powsL]
    rw [e1, e2, e3]
    by_cases hx : u.block = x
    · rw [if_pos hx, if_neg (by rw [hx]; exact hxy)]; omega
    · rw [if_neg hx]; split <;> omega
/-- the winner -/
def TD.win (T : TD) : Option (List UInt8) := (T.cnt.find? fun u => twoB (T.pow u.block) (totalL T.set)).map (·.block)
theorem twoB_true {p t : Int} (h : twoB p t = true) : 0 ≤ p ∧ 0 ≤ t ∧ 2 * t < 3 * p := by
  unfold twoB at h
  simp only [Bool.and_eq_true, decide_eq_true_eq] at h
  exact ⟨(powB_true h.1).1, (powB_true h.2.1).1, h.2.2⟩
theorem win_one {T : TD} (hT : T.ok) {x y : List UInt8} (hx : twoB (T.pow x) (totalL T.set) = true) (hy : twoB (T.pow y) (totalL T.set) = true) : x = y := by
  by_cases e : x = y
  · exact e
  exfalso
  obtain ⟨h1, _, _⟩ := right_sum hT.right
  have a := two_blocks h1 e T.cnt
  have b := pows_total hT.right hT.keys
  have c := (twoB_true hx); have d := (twoB_true hy)
  unfold TD.pow at c d
  omega
theorem win_some {T : TD} (hT : T.ok) {u : VoteD} (hu : u ∈ T.cnt) (h : twoB (T.pow u.block) (totalL T.set) = true) : T.win = some u.block := by
  unfold TD.win
  cases hf : T.cnt.find? fun u => twoB (T.pow u.block) (totalL T.set) with
  | none => have := List.find?_eq_none.1 hf u hu; simp [h] at this
  | some o =>
    have := List.find?_some hf
    rw [Option.map_some, win_one hT this h]
theorem win_none {T : TD} (h : ∀ u ∈ T.cnt, twoB (T.pow u.block) (totalL T.set) = false) : T.win = none := by
  unfold TD.win
  rw [List.find?_eq_none.2 (fun u hu => by simp [h u hu])]; rfl
def winC (o : Option (List UInt8)) : List Value := match o with | some x => Lib.byteCells x | none => ZH
theorem WinnerT {w : World} {p bm bs : Nat} {sv tv : Value} {T : TD} (hT : T.ok) (h : TlRep w p bm bs sv tv T) :
    Calls Tryd.prog 21 #[.pointer (some ⟨p, 0, none⟩)] w fun e w' => e = .returned (.tuple #[.agg (winC T.win).toArray, .bool T.win.isSome]) ∧ w.grownBy w' none := by
  obtain ⟨m, E, hm, hE, hER⟩ := h.sums
  refine (Winner_ok p T.set (totalL T.set) T.of bm bs T.all tv m E w hT.of h.at_ hE).mono ?_
  rintro e w' ⟨g, ⟨x, c, hx, hc, ht, rfl⟩ | ⟨hp, rfl⟩⟩
  · have hh : Maps.has E (hkL x) = true := Maps.has_true_of_atKey hc
    obtain ⟨u, hu, he⟩ := hER.2.2 _ hh
    obtain rfl := hkL_inj hx (hT.cnt u hu).block he
    have e1 := (hc (.lit (.int .i64 0))).symm.trans (hER.1 _ hx)
    injection e1 with e1; injection e1 with _ e1
    subst e1
    rw [win_some hT hu ht]
    exact ⟨rfl, g⟩
  · rw [win_none fun u hu => ?_]
    · exact ⟨rfl, g⟩
    · have hb := (hT.cnt u hu).block
      have hh : Maps.has E (hkL u.block) = true := by rw [hER.2.1 _ hb]; exact decide_eq_true ⟨u, hu, rfl⟩
      exact hp _ hh _ fun zd => (atKey_has hh zd _).trans (hER.1 _ hb)

set_option maxHeartbeats 1000000 in
theorem AnyT {w : World} {p bm bs : Nat} {sv tv : Value} {T : TD} (hT : T.ok) (h : TlRep w p bm bs sv tv T) :
    Calls Tryd.prog 24 #[.pointer (some ⟨p, 0, none⟩)] w fun e w' => e = .returned (.bool (twoB T.all (totalL T.set))) ∧ w.grownBy w' none := by
  have c1 := h.blk.row 43 _ (tl_tail hT.of 2)
  have c2 := h.blk.row 1 _ tl_1
  rw [Nat.zero_add] at c1 c2
  obtain ⟨al, hal⟩ : ∃ a, T.all = a := ⟨_, rfl⟩
  obtain ⟨tot, hto⟩ : ∃ a, totalL T.set = a := ⟨_, rfl⟩
  rw [hal] at c1; rw [hto] at c2; rw [hal, hto]
  have T2 := Lib.hid (show ∀ w', Calls Tryd.prog 14 #[.int .i64 al, .int .i64 tot] w' fun e w2 => e = .returned (.bool (twoB al tot)) ∧ w2 = w' from fun w' => (Two_ok al tot w').mono fun e w2 h => ⟨h.1, h.2.symm⟩)
  clear h hT hal hto
  go_enter Tryd.func24, Tryd.ntmps24
  go_wp2_with fail
  go_quiet ((go_at_call 14; exact Calls.quiet_of_same (T2.out _)))
  go_wp2_with fail
  go_ret
  exact ⟨rfl, dr_grown _ _⟩

/-- a tally that is new -/
def TD.new (ds : List ValD) (of : VoteD) : TD := ⟨ds, of, [], []⟩
theorem new_ok {ds : List ValD} {of : VoteD} (h : rightL ds = true) (hv : of.wf) : (TD.new ds of).ok := ⟨h, hv, by simp [TD.new], by simp [TD.new], by simp [TD.new], by simp [TD.new]⟩
theorem NewT {B : Nat} (v : Value) (ds : List ValD) (c : ByteArray) (h r t : Int) (w : World) (hr : RdS B w v ds.length 2 (setCells ds)) (hn : rightL ds = true) (hv : (forV c h r t).wf) (ho : okVote (forV c h r t) = true) :
    Calls Tryd.prog 18 #[v, .string c, .int .i64 h, .int .i64 r, .int .i64 t] w fun e w' => ∃ p bm bs sv, e = .returned (.tuple #[.pointer (some ⟨p, 0, none⟩), .int .i64 0]) ∧ w.grownBy w' none ∧
      TlRep w' p bm bs sv (.slice none 0 0) (TD.new ds (forV c h r t)) ∧ w.heap.size ≤ p ∧ w.heap.size ≤ bm ∧ w.heap.size ≤ bs ∧ ∀ g, sv.ownBlock = some g → w.heap.size ≤ g := by
  refine (New_yes v ds c h r t w hr hn hv ho).mono ?_
  rintro e w' ⟨p, bm, bs, rfl, g, ⟨⟨sv, b, s, sp⟩, pm, ps, ms⟩, l1, l2, l3, m1, m2, sv2, bsv, nsv⟩
  have esv : sv = sv2 := by
    have h0 := bsv.row 0 sv2 rfl; have h1 := b.row 0 sv rfl
    exact Option.some.inj (h1.symm.trans h0)
  subst esv
  have l0 : 1 ≤ ds.length := by unfold rightL at hn; simp only [Bool.and_eq_true, decide_eq_true_eq] at hn; exact hn.1.2
  refine ⟨p, bm, bs, sv, rfl, g, ⟨b, s, ⟨0, _, Nat.le_refl _, m1, votesR_nil⟩, ⟨0, _, Nat.le_refl _, m2, sumsR_nil _⟩, ⟨rfl, .inl ⟨rfl, rfl⟩⟩, pm, ps, ms, fun t ht => ?_, fun t ht => by simp [Value.ownBlock] at ht⟩, l1, l2, l3, nsv⟩
  obtain ⟨g', o, k, rfl, _, _, _, hrow⟩ := s.at_ (by omega)
  simp [Value.ownBlock] at ht
  subst ht
  have hm : ∀ q n R D (kt : TypeId), w'.ownsMap (H := Value) Tryd.prog kt R q n D → g' ≠ q := fun q n R D kt hq e => by
    subst e
    obtain ⟨es, cl, hb, _⟩ := hq
    have hl : (setCells ds).length = ds.length * 2 := s.len
    obtain ⟨u, hu⟩ : ∃ u, (setCells ds)[0]? = some u := ⟨_, List.getElem?_eq_getElem (by omega)⟩
    have := hrow 0 u hu
    simp [World.cell?, hb] at this
  exact ⟨sp _ rfl, hm _ _ _ _ _ m1, hm _ _ _ _ _ m2, by simp [Value.ownBlock]⟩

theorem no_unit (a b P : Nat) (h : a % P = 0) (g : a * b % P = 1) : False := by
  rw [Nat.mul_mod, h, Nat.zero_mul, Nat.zero_mod] at g
  cases g
theorem pow_part (x k Q : Nat) (h : k % Q ≤ Q) : x ^ (k % Q) * x ^ (Q - k % Q) = x ^ Q := by
  rw [← Nat.pow_add]
  congr 1
  omega
theorem pos_of (Q k : Nat) (hQ : 0 < Q) (g : pw 37 Q = 1) (h : pw 37 (k % Q) = 0) : False := by
  unfold pw at g h
  rw [← pow_part 37 k Q (Nat.le_of_lt (Nat.mod_lt k hQ))] at g
  exact no_unit _ _ _ h g
theorem pw_pos (k : Nat) : 1 ≤ pw 37 k := by
  rcases Nat.eq_zero_or_pos (pw 37 k) with h | h
  · exact (pos_of pQ k (by decide) gen_order ((pw_mod_order k).trans h)).elim
  · exact h
theorem sgR_u64 (x : Nat) (m : List UInt8) : sgR x m < 18446744073709551616 := pw_u64 _ _
theorem sign_wf (x : Nat) (v : VoteD) (m : List UInt8) (h : v.wf) : (v.by (pw 37 x) (sgR x m) (sgS x m)).wf := by_wf v h _ _ _ (pw_u64 _ _) (sgR_u64 _ _) (sgS_u64 _ _)
theorem signed_sign (x : Nat) (v : VoteD) (_hx : keyOk x = true) (ho : okVote v = true) : signedB (v.by (pw 37 x) (sgR x (encVote v.bare)) (sgS x (encVote v.bare))) = true := by
  have e1 : okVote (v.by (pw 37 x) (sgR x (encVote v.bare)) (sgS x (encVote v.bare))) = true := ho
  have e2 : (v.by (pw 37 x) (sgR x (encVote v.bare)) (sgS x (encVote v.bare))).bare = v.bare := rfl
  have hP : 0 < pP := by decide
  have hQ : 0 < pQ := by decide
  unfold signedB
  rw [e1, e2]
  show (true && vfyL (((pw 37 x : Nat) : Int).toNat) (encVote v.bare) (((sgR x (encVote v.bare) : Nat) : Int).toNat) (((sgS x (encVote v.bare) : Nat) : Int).toNat)) = true
  rw [Int.toNat_natCast, Int.toNat_natCast, Int.toNat_natCast]
  unfold vfyL
  have a1 : 1 ≤ pw 37 x := pw_pos x
  have a2 : pw 37 x < pP := Nat.mod_lt _ hP
  have a3 : 1 ≤ sgR x (encVote v.bare) := pw_pos _
  have a4 : sgR x (encVote v.bare) < pP := Nat.mod_lt _ hP
  have a5 : sgS x (encVote v.bare) < pQ := Nat.mod_lt _ hQ
  have a6 : pw 37 (sgS x (encVote v.bare)) = sgR x (encVote v.bare) * pw (pw 37 x) (chalL (sgR x (encVote v.bare)) (pw 37 x) (encVote v.bare)) % pP := by
    unfold sgS
    exact schnorr_right x _ _
  simp [a1, a2, a3, a4, a5, a6]

def blk1 : List UInt8 := 1 :: List.replicate 31 0
def vote0 : VoteD := ⟨⟨#[97]⟩, 1, 0, 2, blk1, 0, 0, 0⟩
theorem vote0_wf : vote0.wf := ⟨by decide, by unfold i64R; decide, by unfold i64R; decide, by unfold i64R; decide, by decide, by unfold u64R; decide, by unfold u64R; decide, by unfold u64R; decide⟩
/-- the vote that alive counts -/
theorem vote1 : ∃ v : VoteD, v.wf ∧ signL 5 vote0 = (v, 0) ∧ signedB v = true ∧ v.block = blk1 ∧ (forV ⟨#[97]⟩ 1 0 2).like v = v := by
  have ho : okVote vote0 = true := by decide +kernel
  have hk : keyOk 5 = true := by decide
  refine ⟨vote0.by (pw 37 5) (sgR 5 (encVote vote0.bare)) (sgS 5 (encVote vote0.bare)), ?_, ?_, signed_sign 5 vote0 hk ho, rfl, rfl⟩
  · exact sign_wf 5 vote0 _ vote0_wf
  · unfold signL; rw [if_pos ho, if_pos hk]
theorem bBlk1 : Tryd.prog.built 25 [(0, .int .u8 1)] = some (Lib.byteCells blk1).toArray := by kernel_rfl
theorem bVote1 : Tryd.prog.built 29 [(0, .string ⟨#[97]⟩), (1, .int .i64 1), (3, .int .i64 2), (4, .agg (Lib.byteCells blk1).toArray)] = some vote0.cells.toArray := by kernel_rfl
theorem right1 (k : Int) : rightL [⟨k, 3⟩] = true := by simp [rightL, sumL, sumGo, rise]
theorem total1 (k : Int) : totalL [⟨k, 3⟩] = 3 := by unfold totalL; rw [if_pos (right1 k)]; rfl
theorem add1 {v : VoteD} (hv : v.wf) (hs : signedB v = true) (hl : (forV ⟨#[97]⟩ 1 0 2).like v = v) :
    (TD.new [⟨v.key, 3⟩] (forV ⟨#[97]⟩ 1 0 2)).add v = (⟨[⟨v.key, 3⟩], forV ⟨#[97]⟩ 1 0 2, [v], []⟩, 0) := by
  have hp : powL v.key [⟨v.key, 3⟩] = 3 := by simp [powL]
  have hf : (TD.new [⟨v.key, 3⟩] (forV ⟨#[97]⟩ 1 0 2)).fits v = true := by
    unfold TD.fits TD.new
    dsimp only
    rw [hl]
    exact (VoteD.eq_iff v v hv hv).2 rfl
  have h2 : ¬ powL v.key [⟨v.key, 3⟩] = 0 := by rw [hp]; decide
  have h3 : ¬ signedB v = false := by simp [hs]
  have h1 : ¬ TD.fits ⟨[⟨v.key, 3⟩], forV ⟨#[97]⟩ 1 0 2, [], []⟩ v = false := fun h => by
    have : TD.fits ⟨[⟨v.key, 3⟩], forV ⟨#[97]⟩ 1 0 2, [], []⟩ v = true := hf
    rw [this] at h; cases h
  show TD.add ⟨[⟨v.key, 3⟩], forV ⟨#[97]⟩ 1 0 2, [], []⟩ v = _
  unfold TD.add
  rw [if_neg h1]
  dsimp only
  rw [if_neg h2, if_neg h3]
  rfl
theorem win1 {v : VoteD} (hb : v.block = blk1) : (⟨[⟨v.key, 3⟩], forV ⟨#[97]⟩ 1 0 2, [v], []⟩ : TD).win = some blk1 ∧ (⟨[⟨v.key, 3⟩], forV ⟨#[97]⟩ 1 0 2, [v], []⟩ : TD).all = 3 := by
  refine ⟨?_, by simp [TD.all, powsL, powL]⟩
  have hp : (⟨[⟨v.key, 3⟩], forV ⟨#[97]⟩ 1 0 2, [v], []⟩ : TD).pow v.block = 3 := by simp [TD.pow, forX, powsL, powL]
  unfold TD.win
  simp only [List.find?_cons, hp, total1]
  rw [show twoB 3 3 = true from by decide]
  simp [hb]

set_option maxHeartbeats 4000000 in
theorem alive9_ok (w : World) (hR : RowAt w 0 0 (wCells rootsL)) : Calls Tryd.prog 11 #[] w fun e w' => e = .returned (.bool true) ∧ w.grownBy w' none := by
  obtain ⟨v, hv, hsg, hs, hb, hl⟩ := vote1
  have S := TSign_ok 5 vote0 w (by decide) vote0_wf hR
  rw [hsg] at S
  have HS := Lib.hid S; have HV := Lib.hid hv; have HG := Lib.hid hs; have HB := Lib.hid hb; have HL := Lib.hid hl; have HR := Lib.hid hR
  have hcl := Lib.hid (v.cells_length hv)
  have K1 := Lib.hid bBlk1; have K2 := Lib.hid bVote1
  have T34 := Lib.hid (show twoB 3 4 = true from by decide); have T23 := Lib.hid (show twoB 2 3 = false from by decide)
  obtain ⟨v0, hv0⟩ : ∃ v, vote0 = v := ⟨_, rfl⟩
  obtain ⟨bl, hbl⟩ : ∃ v, blk1 = v := ⟨_, rfl⟩
  rw [hv0] at K2 HS
  have HBL := Lib.hid hbl
  rw [hbl] at K1 K2 HB
  clear S hv hs hb hl hR hsg hv0 hbl
  go_enter Tryd.func11, Tryd.ntmps11
  go_wp2_with (first | (refine wpList_build_eq rfl 25 _ rfl [(0, .int .u8 1)] (by kernel_rfl) _ K1.out ?_) | (refine wpList_build_eq rfl 29 _ rfl [(0, .string ⟨#[97]⟩), (1, .int .i64 1), (3, .int .i64 2), (4, .agg (Lib.byteCells bl).toArray)] (by kernel_rfl) _ K2.out ?_))
  refine (show Calls Tryd.prog 9 #[.int .u64 5, .agg v0.cells.toArray] w _ from HS.out).mono ?_
  rintro e w1 ⟨rfl, g1⟩
  have G1 := Lib.hid g1
  clear g1 HS
  go_wp2_with (refine wpList_alloc_as rfl 29 rfl ZVote ZVote_info ?_)
  intro w2 b2 g2 s2
  obtain ⟨b, hb⟩ : ∃ b, w1.heap.size = b := ⟨_, rfl⟩
  rw [hb] at b2 ⊢
  have HBb := Lib.hid (show w.heap.size ≤ b by rw [← hb]; exact G1.out.size)
  have B2 := Lib.hid b2; have G2 := Lib.hid (Lib.grownBy_trans G1.out g2)
  clear b2 g2 s2 hb G1
  go_wp2_with (refine wpList_store_whole rfl 29 _ _ rfl b rfl v.cells ZVote 29 rfl B2.out (by rw [hcl.out]; rfl) (VoteD_one _) (sizeVote _ hcl.out) ?_)
  intro w3 g3 s3 b3
  have B3 := Lib.hid b3; have G3 := Lib.hid (grown_new G2.out g3 HBb.out)
  clear b3 g3 s3 B2 G2
  have ck := (VoteD.At.of_row HV.out B3.out.row).key
  rw [Nat.zero_add] at ck
  obtain ⟨k, hk⟩ : ∃ k, v.key = k := ⟨_, rfl⟩
  rw [hk] at ck
  have HK := Lib.hid hk
  clear hk
  go_wp2_with fail
  have gA : w3.grownBy (w3.alloc (.cells #[.int .u64 k, .int .i64 3] 76)) none := World.grownBy_alloc _ _ none
  have bA := Blk.new w3 [.int .u64 k, .int .i64 3] 76
  obtain ⟨sb, hsb⟩ : ∃ b, w3.heap.size = b := ⟨_, rfl⟩
  have hsA : (w3.alloc (.cells #[.int .u64 k, .int .i64 3] 76)).heap.size = sb + 1 := by simp [hsb]
  rw [hsb] at bA ⊢
  obtain ⟨w4, hw4⟩ : ∃ x, w3.alloc (.cells #[.int .u64 k, .int .i64 3] 76) = x := ⟨_, rfl⟩
  rw [show ([Value.int .u64 k, .int .i64 3] : List Value).toArray = #[.int .u64 k, .int .i64 3] from rfl] at bA
  rw [hw4] at gA bA hsA ⊢
  have B4 := Lib.hid (B3.out.grown gA (by simp)); have G4 := Lib.hid (Lib.grownBy_trans G3.out gA)
  have RD := Lib.hid (show RdS w4.heap.size w4 (.slice (some ⟨sb, 0, none⟩) 1 1) 1 2 (setCells [⟨k, 3⟩]) from ⟨_, _, rfl, Nat.le_refl _, by decide, rfl, Or.inr ⟨sb, 0, rfl, by omega, by exact bA.row⟩⟩)
  clear gA bA hsA hw4 hsb ck B3 G3
  refine (NewT (.slice (some ⟨sb, 0, none⟩) 1 1) [⟨k, 3⟩] ⟨#[97]⟩ 1 0 2 w4 RD.out (right1 k) (forV_wf _ _ _ _ (by decide) (by unfold i64R; decide) (by unfold i64R; decide) (by unfold i64R; decide)) (by decide +kernel)).mono ?_
  rintro e w5 ⟨p, bm, bs, sv, rfl, g5, t5, l1, l2, l3, _⟩
  have hsz : w.heap.size ≤ w4.heap.size := G4.out.size
  have B5 := Lib.hid (B4.out.grown g5 (by simp)); have G5 := Lib.hid (Lib.grownBy_trans G4.out g5); have TL5 := Lib.hid t5; have LP := Lib.hid (show w.heap.size ≤ p ∧ w.heap.size ≤ bm ∧ w.heap.size ≤ bs from ⟨by omega, by omega, by omega⟩)
  clear g5 t5 l1 l2 l3 hsz B4 G4 RD
  have A1 := add1 HV.out HG.out HL.out
  rw [HK.out] at A1
  have HA := Lib.hid A1
  clear A1
  have CA := Lib.hid (Add_ok (new_ok (right1 k) (forV_wf ⟨#[97]⟩ 1 0 2 (by decide) (by unfold i64R; decide) (by unfold i64R; decide) (by unfold i64R; decide))) HV.out TL5.out ⟨Nat.zero_le _, Nat.zero_le _⟩ (HR.out.grown G5.out (by simp)))
  rw [HA.out] at CA
  go_wp2_with (refine wpList_load_part rfl 29 _ rfl b 0 rfl v.cells _ B5.out.row Tryd.underlying29 rfl (v.size HV.out) ?_)
  refine CA.out.mono ?_
  rintro e w6 ⟨rfl, k6, tv, t6, _⟩
  have G6 := Lib.hid ((Kp.still G5.out).trans k6 (S := fun _ => False) (fun i hi h => by
    have := LP.out
    rcases h with h | h | h | h
    · omega
    · omega
    · omega
    · simp [Value.ownBlock] at h))
  have G6 := Lib.hid (G6.out.grown (fun _ _ => id)); have TL6 := Lib.hid t6
  clear k6 t6 B5 G5 TL5 CA
  have ok6 : TD.ok ⟨[⟨k, 3⟩], forV ⟨#[97]⟩ 1 0 2, [v], []⟩ := by
    have := TD.add_ok (new_ok (right1 k) (forV_wf ⟨#[97]⟩ 1 0 2 (by decide) (by unfold i64R; decide) (by unfold i64R; decide) (by unfold i64R; decide))) HV.out
    rwa [HA.out] at this
  have OK6 := Lib.hid ok6
  have W6 := win1 (v := v) (HB.out.trans HBL.out.symm)
  rw [HK.out] at W6
  have W6a := Lib.hid W6.1; have W6b := Lib.hid W6.2
  clear ok6 W6
  have CW := Lib.hid (WinnerT OK6.out TL6.out)
  rw [W6a.out] at CW
  go_wp2_with fail
  refine CW.out.mono ?_
  rintro e w7 ⟨rfl, g7⟩
  have G7 := Lib.hid (Lib.grownBy_trans G6.out g7); have TL7 := Lib.hid (TL6.out.grown g7)
  clear g7 CW G6 TL6
  rw [show winC (some blk1) = Lib.byteCells bl by rw [HBL.out]; rfl]
  go_wp2_with (refine wpList_alloc_as rfl 25 rfl ZH ZH_info ?_)
  intro w8 b8 g8 s8
  obtain ⟨c, hc⟩ : ∃ b, w7.heap.size = b := ⟨_, rfl⟩
  rw [hc] at b8 ⊢
  have hbl := Lib.hid (show bl.length = 32 by rw [← HBL.out]; rfl)
  have HC := Lib.hid (show w.heap.size ≤ c by rw [← hc]; exact G7.out.size)
  have B8 := Lib.hid b8; have G8 := Lib.hid (Lib.grownBy_trans G7.out g8); have TL8 := Lib.hid (TL7.out.grown g8)
  have HCn := Lib.hid (show p ≠ c ∧ bm ≠ c ∧ bs ≠ c ∧ (∀ g, sv.ownBlock = some g → g ≠ c) ∧ (∀ g, tv.ownBlock = some g → g ≠ c) from by
    have h := TL7.out
    obtain ⟨_, _, _, hD, _⟩ := h.votes
    obtain ⟨_, _, _, hE, _⟩ := h.sums
    have h1 := h.blk.lt; have h2 := hD.lt; have h3 := hE.lt
    refine ⟨by omega, by omega, by omega, fun g hg => ?_, fun g hg => by have := ownsRow.lt h.twice hg; omega⟩
    obtain ⟨ao, q, rfl, _, _, _, ⟨rfl, _⟩ | ⟨g', o, rfl, hlt, _⟩⟩ := h.set
    · simp [Value.ownBlock] at hg
    · simp [Value.ownBlock] at hg; omega)
  clear b8 g8 s8 hc G7 TL7
  go_wp2_with (refine wpList_store_whole rfl 25 _ _ rfl c rfl (Lib.byteCells bl) ZH 25 rfl B8.out (by rw [Lib.byteCells_length, hbl.out]; rfl) (oneCell_bytes _) (sizeH _ (by rw [Lib.byteCells_length, hbl.out])) ?_)
  intro w9 g9 s9 b9
  have TL9 := Lib.hid (TL8.out.kp (S := fun i => i = c) (Kp.of g9 (fun i e _ => by cases e; rfl)) HCn.out.1 HCn.out.2.1 HCn.out.2.2.1 (fun g h => HCn.out.2.2.2.1 g h) (fun g h => HCn.out.2.2.2.2 g h))
  have G9 := Lib.hid (grown_new G8.out g9 HC.out)
  have c9 : w9.cell? ⟨c, 0, none⟩ = some (.int .u8 1) := by
    have := b9.row 0 (.int .u8 1) (by rw [← HBL.out]; rfl)
    rwa [Nat.zero_add] at this
  have l9 := Lib.hid b9.lt
  clear g9 s9 b9 B8 G8 TL8
  have CA := Lib.hid (AllT OK6.out TL9.out)
  rw [W6b.out] at CA
  have T1 := Lib.hid (Two_ok 3 4 w9); have T2 := Lib.hid (Two_ok 2 3 w9)
  rw [T34.out] at T1; rw [T23.out] at T2
  go_wp2_with (first | (go_at_call 23; refine CA.out.mono ?_; rintro e w' ⟨rfl, rfl⟩) | (go_at_call 14; first | (with_reducible refine T1.out.mono ?_; rintro e w' ⟨rfl, rfl⟩) | (with_reducible refine T2.out.mono ?_; rintro e w' ⟨rfl, rfl⟩)))
  go_ret
  exact ⟨rfl, G9.out⟩

theorem add_set (T : TD) (v : VoteD) : (T.add v).1.set = T.set ∧ (T.add v).1.of = T.of := by
  unfold TD.add
  split
  · exact ⟨rfl, rfl⟩
  split
  · exact ⟨rfl, rfl⟩
  split
  · exact ⟨rfl, rfl⟩
  split
  · split <;> exact ⟨rfl, rfl⟩
  · exact ⟨rfl, rfl⟩
theorem add_cnt (T : TD) (v : VoteD) : ((T.add v).1.cnt = T.cnt ∨ (T.add v).1.cnt = T.cnt ++ [v]) ∧ (T.add v).1.both.length ≤ T.both.length + 2 := by
  unfold TD.add
  split
  · exact ⟨.inl rfl, by simp⟩
  split
  · exact ⟨.inl rfl, by simp⟩
  split
  · exact ⟨.inl rfl, by simp⟩
  split
  · split
    · exact ⟨.inl rfl, by simp⟩
    · exact ⟨.inl rfl, by simp⟩
  · exact ⟨.inr rfl, by simp⟩
theorem add_pow {T : TD} (hT : T.ok) (v : VoteD) (x : List UInt8) : T.pow x ≤ (T.add v).1.pow x := by
  have hs := (add_set T v).1
  unfold TD.pow
  rw [hs]
  rcases (add_cnt T v).1 with h | h
  · rw [h]; exact Int.le_refl _
  · rw [h, pow_snoc]
    have := powL_nonneg (right_sum hT.right).1 v.key
    split <;> omega
theorem pow_le {T : TD} (hT : T.ok) (x : List UInt8) : 0 ≤ T.pow x ∧ T.pow x ≤ T.all ∧ T.all ≤ totalL T.set ∧ totalL T.set ≤ 1125899906842624 := by
  obtain ⟨h1, _, h3⟩ := right_sum hT.right
  exact ⟨powsL_nonneg h1 _, powsL_filter h1 _ _, pows_total hT.right hT.keys, h3⟩
theorem twoB_mono {p q t : Int} (h : twoB p t = true) (hpq : p ≤ q) (hq : q ≤ 1125899906842624) : twoB q t = true := by
  obtain ⟨h0, _, h2⟩ := twoB_true h
  unfold twoB at h ⊢
  simp only [Bool.and_eq_true, decide_eq_true_eq] at h ⊢
  refine ⟨?_, h.2.1, by omega⟩
  unfold powB
  simp
  omega
theorem win_is {T : TD} (hT : T.ok) (x : List UInt8) : twoB (T.pow x) (totalL T.set) = decide (T.win = some x) := by
  cases h : twoB (T.pow x) (totalL T.set) with
  | true =>
    have hx : ∃ u ∈ T.cnt, u.block = x := by
      by_cases e : ∃ u ∈ T.cnt, u.block = x
      · exact e
      · exfalso
        have : forX T.cnt x = [] := List.filter_eq_nil_iff.2 fun u hu => by simp; exact fun hb => e ⟨u, hu, hb⟩
        obtain ⟨h0, h1, h2⟩ := twoB_true h
        unfold TD.pow at h0 h2
        rw [this] at h2
        simp [powsL] at h2
        omega
    obtain ⟨u, hu, rfl⟩ := hx
    rw [win_some hT hu h]; simp
  | false =>
    symm
    apply decide_eq_false
    intro e
    unfold TD.win at e
    obtain ⟨u, hu, hb⟩ := Option.map_eq_some_iff.1 e
    have := List.find?_some hu
    rw [hb] at this
    rw [this] at h; cases h
theorem win_stays {T : TD} (hT : T.ok) {v : VoteD} (hv : v.wf) {x : List UInt8} (h : T.win = some x) : (T.add v).1.win = some x := by
  have h1 : twoB (T.pow x) (totalL T.set) = true := by rw [win_is hT]; simp [h]
  have hok := TD.add_ok hT hv
  have hp := pow_le hok x
  have h2 : twoB ((T.add v).1.pow x) (totalL (T.add v).1.set) = true := by
    rw [(add_set T v).1]
    exact twoB_mono h1 (add_pow hT v x) (by omega)
  rw [win_is hok] at h2
  simpa using h2
theorem win_len {T : TD} (hT : T.ok) {x : List UInt8} (h : T.win = some x) : x.length = 32 := by
  unfold TD.win at h
  obtain ⟨u, hu, hb⟩ := Option.map_eq_some_iff.1 h
  rw [← hb]
  exact (hT.cnt u (List.mem_of_find?_eq_some hu)).block

/-! votes, one by one -/
def addAll (T : TD) (l : List VoteD) : TD := l.foldl (fun T v => (T.add v).1) T
theorem addAll_take (T : TD) (l : List VoteD) {i : Nat} (hi : i < l.length) : addAll T (l.take (i + 1)) = ((addAll T (l.take i)).add l[i]).1 := by
  unfold addAll
  rw [List.take_succ_eq_append_getElem hi, List.foldl_append]
  rfl
theorem addAll_ok {T : TD} (hT : T.ok) : ∀ l : List VoteD, (∀ v ∈ l, v.wf) → (addAll T l).ok
  | [], _ => hT
  | v :: l, h => addAll_ok (T := (T.add v).1) (TD.add_ok hT (h v (by simp))) l fun u hu => h u (by simp [hu])
theorem addAll_set (T : TD) : ∀ l : List VoteD, (addAll T l).set = T.set
  | [] => rfl
  | v :: l => by
    have := addAll_set (T.add v).1 l
    rw [(add_set T v).1] at this
    exact this
theorem addAll_size (T : TD) : ∀ l : List VoteD, (addAll T l).cnt.length ≤ T.cnt.length + l.length ∧ (addAll T l).both.length ≤ T.both.length + 2 * l.length
  | [] => by simp [addAll]
  | v :: l => by
    have := addAll_size (T.add v).1 l
    have h := add_cnt T v
    have h1 : (T.add v).1.cnt.length ≤ T.cnt.length + 1 := by rcases h.1 with e | e <;> rw [e] <;> simp
    have h2 := h.2
    have e : addAll T (v :: l) = addAll (T.add v).1 l := rfl
    rw [e]
    simp only [List.length_cons]
    omega
theorem addAll_cnt (T : TD) (S : List VoteD) : ∀ l : List VoteD, (∀ u ∈ T.cnt, u ∈ S) → (∀ u ∈ l, u ∈ S) → ∀ u ∈ (addAll T l).cnt, u ∈ S
  | [], h, _, u, hu => h u hu
  | v :: l, h, hl, u, hu => by
    refine addAll_cnt (T.add v).1 S l (fun y hy => ?_) (fun y hy => hl y (by simp [hy])) u hu
    rcases (add_cnt T v).1 with e | e
    · rw [e] at hy; exact h y hy
    · rw [e] at hy
      rcases List.mem_append.1 hy with hy | hy
      · exact h y hy
      · simp at hy; subst hy; exact hl _ (by simp)

/-! blocks, each once -/
def blkAt (l : List VoteD) (k : Nat) : List UInt8 := ((l[k]?).map (·.block)).getD []
theorem blkAt_get {l : List VoteD} {k : Nat} (h : k < l.length) : blkAt l k = l[k].block := by simp [blkAt, h]
def dB (l : List VoteD) : Nat → List (List UInt8)
  | 0 => []
  | k + 1 => if blkAt l k ∈ dB l k then dB l k else dB l k ++ [blkAt l k]
def fstB (l : List VoteD) (k : Nat) : Nat → Bool
  | 0 => true
  | j + 1 => fstB l k j && !(blkAt l j == blkAt l k)
theorem mem_dB (l : List VoteD) (x : List UInt8) : ∀ k, x ∈ dB l k ↔ ∃ j, j < k ∧ blkAt l j = x
  | 0 => by simp [dB]
  | k + 1 => by
    have ih := mem_dB l x k
    unfold dB
    split
    · rename_i h
      rw [ih]
      constructor
      · rintro ⟨j, hj, e⟩; exact ⟨j, by omega, e⟩
      · rintro ⟨j, hj, e⟩
        rcases Nat.lt_or_ge j k with hjk | hjk
        · exact ⟨j, hjk, e⟩
        · obtain rfl : j = k := by omega
          rw [e] at h
          exact (mem_dB l x j).1 h
    · rw [List.mem_append, ih]
      constructor
      · rintro (⟨j, hj, e⟩ | h)
        · exact ⟨j, by omega, e⟩
        · simp at h; exact ⟨k, by omega, h.symm⟩
      · rintro ⟨j, hj, e⟩
        rcases Nat.lt_or_ge j k with hjk | hjk
        · exact .inl ⟨j, hjk, e⟩
        · obtain rfl : j = k := by omega
          exact .inr (by simp [e])
theorem nodup_dB (l : List VoteD) : ∀ k, (dB l k).Nodup
  | 0 => by simp [dB]
  | k + 1 => by
    unfold dB
    split
    · exact nodup_dB l k
    · rename_i h
      rw [List.nodup_append]
      refine ⟨nodup_dB l k, by simp, fun a ha b hb e => ?_⟩
      simp at hb
      subst hb e
      exact h ha
theorem fstB_eq (l : List VoteD) (k : Nat) : ∀ j, fstB l k j = decide (∀ i, i < j → blkAt l i ≠ blkAt l k)
  | 0 => by simp [fstB]
  | j + 1 => by
    rw [fstB, fstB_eq l k j]
    by_cases h : ∀ i, i < j → blkAt l i ≠ blkAt l k
    · rw [decide_eq_true h, Bool.true_and]
      by_cases e : blkAt l j = blkAt l k
      · rw [decide_eq_false (fun hh => hh j (by omega) e)]; simp [e]
      · rw [decide_eq_true (fun i hi => ?_)]
        · simp [e]
        · rcases Nat.lt_or_ge i j with h1 | h1
          · exact h i h1
          · obtain rfl : i = j := by omega
            exact e
    · rw [decide_eq_false h, Bool.false_and, decide_eq_false (fun hh => h fun i hi => hh i (by omega))]
theorem fstB_mem (l : List VoteD) (k : Nat) : fstB l k k = !(decide (blkAt l k ∈ dB l k)) := by
  rw [fstB_eq]
  by_cases h : blkAt l k ∈ dB l k
  · rw [decide_eq_true h]
    obtain ⟨j, hj, e⟩ := (mem_dB l _ k).1 h
    rw [decide_eq_false (fun hh => hh j hj e)]; rfl
  · rw [decide_eq_false h]
    have hh : ∀ i, i < k → blkAt l i ≠ blkAt l k := fun i hi e => h ((mem_dB l _ k).2 ⟨i, hi, e⟩)
    rw [decide_eq_true hh]; rfl
def sumB (T : TD) (bs : List (List UInt8)) : Int := (bs.map T.pow).sum
theorem sum_blocks {ds : List ValD} (h : ∀ d ∈ ds, 1 ≤ d.power) (bs : List (List UInt8)) (hn : bs.Nodup) : ∀ l : List VoteD, (bs.map fun x => powsL ds (forX l x)).sum ≤ powsL ds l ∧ ((∀ u ∈ l, u.block ∈ bs) → (bs.map fun x => powsL ds (forX l x)).sum = powsL ds l)
  | [] => by
    have : ∀ bs : List (List UInt8), (bs.map fun x => powsL ds (forX [] x)).sum = 0 := fun bs => by
      induction bs with
      | nil => rfl
      | cons b l ih => rw [List.map_cons, List.sum_cons, ih]; simp [forX, powsL]
    rw [this]; simp [powsL]
  | u :: l => by
    obtain ⟨h1, h2⟩ := sum_blocks h bs hn l
    have hu := powL_nonneg h u.key
    have e1 : ∀ bs : List (List UInt8), bs.Nodup → (bs.map fun x => powsL ds (forX (u :: l) x)).sum = (if u.block ∈ bs then powL u.key ds else 0) + (bs.map fun x => powsL ds (forX l x)).sum := fun bs hb => by
      induction bs with
      | nil => simp
      | cons b m ih =>
        rw [List.nodup_cons] at hb
        rw [List.map_cons, List.sum_cons, ih hb.2, List.map_cons, List.sum_cons]
        have e : powsL ds (forX (u :: l) b) = (if u.block = b then powL u.key ds else 0) + powsL ds (forX l b) := by
          by_cases hu : u.block = b <;> simp [forX, powsL, hu]
        rw [e]
        by_cases hub : u.block = b
        · subst hub
          rw [if_pos rfl, if_neg hb.1, if_pos (by simp)]; omega
        · rw [if_neg hub]
          have : (u.block ∈ b :: m) ↔ u.block ∈ m := by simp [hub]
          simp only [this]
          omega
    rw [e1 bs hn]
    have e3 : powsL ds (u :: l) = powL u.key ds + powsL ds l := by simp [powsL]
    rw [e3]
    refine ⟨by split <;> omega, fun hc => ?_⟩
    rw [if_pos (hc u (by simp)), h2 fun v hv => hc v (by simp [hv])]
theorem sumB_le {T : TD} (hT : T.ok) (l : List VoteD) (k : Nat) : 0 ≤ sumB T (dB l k) ∧ sumB T (dB l k) ≤ T.all := by
  have h := (right_sum hT.right).1
  refine ⟨?_, (sum_blocks h _ (nodup_dB l k) T.cnt).1⟩
  unfold sumB
  have : ∀ bs : List (List UInt8), 0 ≤ (bs.map T.pow).sum := fun bs => by
    induction bs with
    | nil => simp
    | cons b m ih => rw [List.map_cons, List.sum_cons]; have := (pow_le hT b).1; omega
  exact this _
theorem sumB_all {T : TD} (hT : T.ok) (l : List VoteD) (k : Nat) (hc : ∀ u ∈ T.cnt, u.block ∈ dB l k) : sumB T (dB l k) = T.all :=
  (sum_blocks (right_sum hT.right).1 _ (nodup_dB l k) T.cnt).2 hc
theorem sumB_step (T : TD) (l : List VoteD) (k : Nat) : sumB T (dB l (k + 1)) = if fstB l k k then sumB T (dB l k) + T.pow (blkAt l k) else sumB T (dB l k) := by
  rw [fstB_mem]
  unfold sumB
  rw [dB]
  by_cases h : blkAt l k ∈ dB l k
  · simp [h]
  · simp [h]
theorem cover {T0 : TD} (h0 : T0.cnt = []) (l : List VoteD) {i : Nat} (hi : i < l.length) : ∀ u ∈ (addAll T0 (l.take (i + 1))).cnt, u.block ∈ dB l (i + 1) := by
  intro u hu
  have := addAll_cnt T0 (l.take (i + 1)) (l.take (i + 1)) (by rw [h0]; simp) (fun _ h => h) u hu
  obtain ⟨j, hj, e⟩ := List.getElem_of_mem this
  refine (mem_dB l _ _).2 ⟨j, ?_, ?_⟩
  · rw [List.length_take] at hj; omega
  · have hj2 : j < l.length := by rw [List.length_take] at hj; omega
    rw [blkAt_get hj2, ← e, List.getElem_take]

def voteCells (l : List VoteD) : List Value := l.flatMap VoteD.cells
theorem winC_len {T : TD} (hT : T.ok) : (winC T.win).length = 32 := by
  cases h : T.win with
  | none => exact ZH_length
  | some x => show (Lib.byteCells x).length = 32; rw [Lib.byteCells_length, win_len hT h]
theorem winC_one (o : Option (List UInt8)) : ∀ v ∈ winC o, v.oneCell' = true := by
  cases o with
  | none => exact ZH_one
  | some x => exact oneCell_bytes x
theorem RowAt.vote {l : List VoteD} {w : World} {g o : Nat} (h : RowAt w g o (voteCells l)) (hw : ∀ v ∈ l, v.wf) (i : Nat) (hi : i < l.length) : RowAt w g (o + i * 39) l[i].cells :=
  RowAt.elem h (fun d hd => d.cells_length (hw d hd)) i hi
theorem RowAt.voteBlk {l : List VoteD} {w : World} {g o : Nat} (h : RowAt w g o (voteCells l)) (hw : ∀ v ∈ l, v.wf) (i : Nat) (hi : i < l.length) : RowAt w g (o + i * 39 + 4) (Lib.byteCells (blkAt l i)) := by
  have h1 := (VoteD.At.of_row (hw _ (List.getElem_mem hi)) (h.vote hw i hi)).block
  rw [blkAt_get hi]
  exact h1
theorem blkAt_len {l : List VoteD} (hw : ∀ v ∈ l, v.wf) {i : Nat} (hi : i < l.length) : (blkAt l i).length = 32 := by
  rw [blkAt_get hi]; exact (hw _ (List.getElem_mem hi)).block

theorem yieldsIf_neq_flat {P : Program} {ops : Array Oper} {S : World → Prop} {o : Oper} {a : Act} (hgd : Region.wanted o (yielded ops a.tmps) = true) (t u : TypeId) (x y : Operand) (ho : o.op = .binOp .neq t x y u)
    (xs ys ks : List Value) (hx : a.eval x = .agg xs.toArray) (hy : a.eval y = .agg ys.toArray) (h : flat P 20 t = some ks) (fx : Fits ks xs = true) (fy : Fits ks ys = true)
    (hd : (P.underlying t).map (fun d => match d with | .struct _ | .array _ _ => true | _ => false) = some true) (hm : P.eqGuardType P.depth t = false) {b : Bool} (hb : (!VEq xs ys) = b) : YieldsIf P ops S o (.bool b) a :=
  .inl ⟨hgd, fun w' _ => by
    unfold execOp
    simp only [ho, hx, hy, Sem.run_bind, Sem.run_pure, Result.andThen_ok, run_eqGuard_agg w' .neq t x y xs.toArray ys.toArray hm, (run_eql_flat h xs ys w' fx fy hd).2, hb]⟩

end Go.Proofs.YtfnginmoiecgnaaDoor
