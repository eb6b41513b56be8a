/- Tallies in memory, and plainly: Add, Power, All, Winner, Any. Walk: nunciolaw09.alive. -/
import Derived.Test.YtfnginmoiecgnaaDoorAdd
namespace Go.Proofs.YtfnginmoiecgnaaDoor
open Go.RowKit
open Go.Maps (Keyed)
set_option maxRecDepth 100000

theorem atKey_has {D : DataW Value} {k : Lit} (h : Maps.has D k = true) (z z' : DataW Value) : D.atKey k z = D.atKey k z' := by
  cases D <;> try (simp [Maps.has] at h; done)
  rename_i es
  have h2 : es.any (fun p => p.1.sameKey k) = true := h
  rw [List.any_eq_true] at h2
  obtain ⟨p, hp, hk⟩ := h2
  unfold DataW.atKey
  dsimp only
  split
  · rfl
  · rename_i hf
    have := List.find?_eq_none.1 hf p hp
    exact absurd hk this

theorem Add_ok {w : World} {p bm bs : Nat} {sv tv : Value} {T : TD} {v : VoteD} (hT : T.ok) (hv : v.wf) (h : TlRep w p bm bs sv tv T) (hsm : T.cnt.length ≤ 1000 ∧ T.both.length ≤ 2000) (hR : RowAt w 0 0 (wCells rootsL)) :
    Calls Tryd.prog 20 #[.pointer (some ⟨p, 0, none⟩), .agg v.cells.toArray] w fun e w' => e = .returned (.int .i64 (T.add v).2) ∧ Kp w w' (TlB p bm bs tv) ∧ ∃ tv', TlRep w' p bm bs sv tv' (T.add v).1 ∧ (tv'.ownBlock = tv.ownBlock ∨ ∀ g, tv'.ownBlock = some g → w.heap.size ≤ g) := by
  have h0 := h
  obtain ⟨hblk, hset, ⟨n, D, hn, hD, hDR⟩, ⟨m, E, hm, hE, hER⟩, htw, pm, ps, ms, sp, tp⟩ := h
  have hd := hDR v.key hv.key
  obtain ⟨old, ho, he⟩ : ∃ old : VoteD, old.wf ∧ (((findK T.cnt v.key).map VoteD.cells).getD ZVote) = old.cells ∧ (∀ o, findK T.cnt v.key = some o → old = o) := by
    cases hf : findK T.cnt v.key with
    | none => exact ⟨zeroV, zeroV_wf, zeroV_cells.symm, by simp⟩
    | some o => exact ⟨o, hT.cnt _ (findK_some hf).1, rfl, by simp⟩
  obtain ⟨he, heo⟩ := he
  rw [he] at hd
  refine (Add_walk p sv T.set (totalL T.set) T.of v old bm bs T.all (T.pow v.block) tv n m T.both.length D E _ _ w hT.of hv ho hblk hset hD hE htw hR ⟨by omega, by omega, hsm.2⟩ hd.1 hd.2 (hER.1 _ hv.block) (fun hs => TD.small hT (by simpa using hs) _) ⟨pm, ps, ms⟩ (fun g hg => (tp g hg).1)).mono ?_
  have hb1 := hblk.lt; have hb2 := hD.lt; have hb3 := hE.lt
  rintro e w' hr
  cases hr with
  | form h1 g =>
    have ea : T.add v = (T, 91) := by unfold TD.add TD.fits; rw [if_pos h1]
    rw [ea]; exact ⟨rfl, Kp.still g, tv, h0.grown g, .inl rfl⟩
  | key h1 h2 g =>
    have ea : T.add v = (T, 92) := by unfold TD.add TD.fits; rw [if_neg (by simp [h1]), if_pos h2]
    rw [ea]; exact ⟨rfl, Kp.still g, tv, h0.grown g, .inl rfl⟩
  | sig h1 h2 h3 g =>
    have ea : T.add v = (T, 93) := by unfold TD.add TD.fits; rw [if_neg (by simp [h1]), if_neg h2, if_pos h3]
    rw [ea]; exact ⟨rfl, Kp.still g, tv, h0.grown g, .inl rfl⟩
  | had h1 h2 h3 h4 h5 g =>
    obtain ⟨o, hf⟩ := Option.isSome_iff_exists.1 h4
    have ea : T.add v = (T, 0) := by
      unfold TD.add TD.fits; rw [if_neg (by simp [h1]), if_neg h2, if_neg (by simp [h3]), hf]
      simp [← heo o hf, h5]
    rw [ea]; exact ⟨rfl, Kp.still g, tv, h0.grown g, .inl rfl⟩
  | twice h1 h2 h3 h4 h5 k g cap b r hg =>
    obtain ⟨o, hf⟩ := Option.isSome_iff_exists.1 h4
    have eo := heo o hf
    subst eo
    have ea : T.add v = ({ T with both := T.both ++ [old, v] }, 94) := by
      unfold TD.add TD.fits; rw [if_neg (by simp [h1]), if_neg h2, if_neg (by simp [h3]), hf]
      simp [h5]
    have eg : (Value.slice (some ⟨g, 0, none⟩) (T.both.length + 2) cap).ownBlock = some g := rfl
    have n1 : ∀ i, i < w.heap.size → (∀ t, tv.ownBlock = some t → t ≠ i) → g ≠ i := fun i hi ht => by rcases hg with hg | hg; exact ht g hg; omega
    have n2 : ∀ (q : Nat), q ≠ p → (∀ t, tv.ownBlock = some t → t ≠ q) → ¬ (q = p ∨ tv.ownBlock = some q) := fun q h1 h2 => by
      rintro (h | h)
      · exact h1 h
      · exact h2 q h rfl
    have nm := n2 bm pm (fun t ht => (tp t ht).2.1); have ns := n2 bs ps (fun t ht => (tp t ht).2.2)
    have nv : ∀ t, sv.ownBlock = some t → ¬ (t = p ∨ tv.ownBlock = some t) := fun t ht => by
      rintro (h | h)
      · exact (sp t ht).1 h
      · exact (sp t ht).2.2.2 h
    have hs' : ∀ t, sv.ownBlock = some t → t < w.heap.size := fun t ht => by
      obtain ⟨ao, c, rfl, _, _, _, ⟨rfl, _⟩ | ⟨g', o, rfl, hlt, _⟩⟩ := hset
      · simp [Value.ownBlock] at ht
      · simp [Value.ownBlock] at ht; omega
    rw [ea]
    refine ⟨rfl, k.mono (fun i _ h => ?_), .slice (some ⟨g, 0, none⟩) (T.both.length + 2) cap, ⟨b, (hset.kp k nv).mono k.size, ⟨n, D, hn, ownsMap.kp hD k nm, hDR⟩, ⟨m, E, hm, ownsMap.kp hE k ns, hER⟩, ?_, pm, ps, ms, fun t ht => ?_, fun t ht => ?_⟩, ?_⟩
    · rcases h with h | h
      · exact .inl h
      · exact .inr (.inr (.inr h))
    · simpa using r
    · obtain ⟨a1, a2, a3, a4⟩ := sp t ht
      refine ⟨a1, a2, a3, fun e => ?_⟩
      rw [eg] at e
      injection e with e
      exact n1 t (hs' t ht) (fun t2 h2 e2 => a4 (by rw [h2, e2])) e
    · rw [eg] at ht
      injection ht with ht
      subst ht
      exact ⟨n1 p hb1 fun t h => (tp t h).1, n1 bm hb2 fun t h => (tp t h).2.1, n1 bs hb3 fun t h => (tp t h).2.2⟩
    · rw [eg]
      rcases hg with hg | hg
      · exact .inl hg.symm
      · exact .inr fun t e => by injection e with e; omega
  | new h1 h2 h3 h4 k b d e =>
    have hf : findK T.cnt v.key = none := by simpa using h4
    have ea : T.add v = ({ T with cnt := T.cnt ++ [v] }, 0) := by
      unfold TD.add TD.fits; rw [if_neg (by simp [h1]), if_neg h2, if_neg (by simp [h3]), hf]
    have en : powsL T.set (T.cnt ++ [v]) = T.all + powL v.key T.set := by rw [powsL_append]; simp [powsL, TD.all]
    have nv : ∀ t, sv.ownBlock = some t → ¬ (t = p ∨ t = bm ∨ t = bs) := fun t ht => by
      obtain ⟨a1, a2, a3, a4⟩ := sp t ht
      rintro (h | h | h) <;> contradiction
    have nt : ∀ t, tv.ownBlock = some t → ¬ (t = p ∨ t = bm ∨ t = bs) := fun t ht => by
      obtain ⟨a1, a2, a3⟩ := tp t ht
      rintro (h | h | h) <;> contradiction
    rw [ea]
    refine ⟨rfl, k.mono (fun i _ h => ?_), tv, ⟨?_, (hset.kp k nv).mono k.size, ⟨n + 1, _, by simp; omega, d, votesR_put hDR hD.isMap hv hf⟩, ⟨m + 1, _, by simp; omega, e, sumsR_put hER hE.isMap hv⟩, ownsRow.kp htw k nt, pm, ps, ms, sp, tp⟩, .inl rfl⟩
    · rcases h with h | h | h
      · exact .inl h
      · exact .inr (.inl h)
      · exact .inr (.inr (.inl h))
    · show Blk w' p (tlCells sv (totalL T.set) T.of bm bs (powsL T.set (T.cnt ++ [v])) tv) _
      rw [en]; exact b

theorem PowerT {w : World} {p bm bs : Nat} {sv tv : Value} {T : TD} (hT : T.ok) (h : TlRep w p bm bs sv tv T) (x : List UInt8) (hx : x.length = 32) :
    Calls Tryd.prog 22 #[.pointer (some ⟨p, 0, none⟩), .agg (Lib.byteCells x).toArray] w fun e w' => e = .returned (.int .i64 (T.pow x)) ∧ w.grownBy w' none := by
  obtain ⟨m, E, hm, hE, hER⟩ := h.sums
  exact Power_ok2 p T.set (totalL T.set) T.of bm bs T.all tv x m E _ w hT.of hx h.at_ hE (hER.1 x hx)
theorem AllT {w : World} {p bm bs : Nat} {sv tv : Value} {T : TD} (hT : T.ok) (h : TlRep w p bm bs sv tv T) :
    Calls Tryd.prog 23 #[.pointer (some ⟨p, 0, none⟩)] w fun e w' => e = .returned (.int .i64 T.all) ∧ w = w' :=
  All_ok p T.set (totalL T.set) T.of bm bs T.all tv w hT.of h.at_

theorem two_blocks {ds : List ValD} (h : ∀ d ∈ ds, 1 ≤ d.power) {x y : List UInt8} (hxy : x ≠ y) : ∀ l : List VoteD, powsL ds (forX l x) + powsL ds (forX l y) ≤ powsL ds l
  | [] => by simp [forX, powsL]
  | u :: l => by
    have ih := two_blocks h hxy l
    have h1 := powL_nonneg h u.key
    have e1 : powsL ds (forX (u :: l) x) = (if u.block = x then powL u.key ds else 0) + powsL ds (forX l x) := by
      by_cases hu : u.block = x <;> simp [forX, powsL, hu]
    have e2 : powsL ds (forX (u :: l) y) = (if u.block = y then powL u.key ds else 0) + powsL ds (forX l y) := by
      by_cases hu : u.block = y <;> simp [forX, powsL, hu]
    have e3 : powsL ds (u :: l) = powL u.key ds + powsL ds l := by simp [powsL]
    rw [e1, e2, e3]
    by_cases hx : u.block = x
    · rw [if_pos hx, if_neg (by rw [hx]; exact hxy)]; omega
    · rw [if_neg hx]; split <;> omega
/-- the winner -/
def TD.win (T : TD) : Option (List UInt8) := (T.cnt.find? fun u => twoB (T.pow u.block) (totalL T.set)).map (·.block)
theorem twoB_true {p t : Int} (h : twoB p t = true) : 0 ≤ p ∧ 0 ≤ t ∧ 2 * t < 3 * p := by
  unfold twoB at h
  simp only [Bool.and_eq_true, decide_eq_true_eq] at h
  exact ⟨(powB_true h.1).1, (powB_true h.2.1).1, h.2.2⟩
theorem win_one {T : TD} (hT : T.ok) {x y : List UInt8} (hx : twoB (T.pow x) (totalL T.set) = true) (hy : twoB (T.pow y) (totalL T.set) = true) : x = y := by
  by_cases e : x = y
  · exact e
  exfalso
  obtain ⟨h1, _, _⟩ := right_sum hT.right
  have a := two_blocks h1 e T.cnt
  have b := pows_total hT.right hT.keys
  have c := (twoB_true hx); have d := (twoB_true hy)
  unfold TD.pow at c d
  omega
theorem win_some {T : TD} (hT : T.ok) {u : VoteD} (hu : u ∈ T.cnt) (h : twoB (T.pow u.block) (totalL T.set) = true) : T.win = some u.block := by
  unfold TD.win
  cases hf : T.cnt.find? fun u => twoB (T.pow u.block) (totalL T.set) with
  | none => have := List.find?_eq_none.1 hf u hu; simp [h] at this
  | some o =>
    have := List.find?_some hf
    rw [Option.map_some, win_one hT this h]
theorem win_none {T : TD} (h : ∀ u ∈ T.cnt, twoB (T.pow u.block) (totalL T.set) = false) : T.win = none := by
  unfold TD.win
  rw [List.find?_eq_none.2 (fun u hu => by simp [h u hu])]; rfl
def winC (o : Option (List UInt8)) : List Value := match o with | some x => Lib.byteCells x | none => ZH
theorem WinnerT {w : World} {p bm bs : Nat} {sv tv : Value} {T : TD} (hT : T.ok) (h : TlRep w p bm bs sv tv T) :
    Calls Tryd.prog 21 #[.pointer (some ⟨p, 0, none⟩)] w fun e w' => e = .returned (.tuple #[.agg (winC T.win).toArray, .bool T.win.isSome]) ∧ w.grownBy w' none := by
  obtain ⟨m, E, hm, hE, hER⟩ := h.sums
  refine (Winner_ok p T.set (totalL T.set) T.of bm bs T.all tv m E w hT.of h.at_ hE).mono ?_
  rintro e w' ⟨g, ⟨x, c, hx, hc, ht, rfl⟩ | ⟨hp, rfl⟩⟩
  · have hh : Maps.has E (hkL x) = true := Maps.has_true_of_atKey hc
    obtain ⟨u, hu, he⟩ := hER.2.2 _ hh
    obtain rfl := hkL_inj hx (hT.cnt u hu).block he
    have e1 := (hc (.lit (.int .i64 0))).symm.trans (hER.1 _ hx)
    injection e1 with e1; injection e1 with _ e1
    subst e1
    rw [win_some hT hu ht]
    exact ⟨rfl, g⟩
  · rw [win_none fun u hu => ?_]
    · exact ⟨rfl, g⟩
    · have hb := (hT.cnt u hu).block
      have hh : Maps.has E (hkL u.block) = true := by rw [hER.2.1 _ hb]; exact decide_eq_true ⟨u, hu, rfl⟩
      exact hp _ hh _ fun zd => (atKey_has hh zd _).trans (hER.1 _ hb)

set_option maxHeartbeats 1000000 in
theorem AnyT {w : World} {p bm bs : Nat} {sv tv : Value} {T : TD} (hT : T.ok) (h : TlRep w p bm bs sv tv T) :
    Calls Tryd.prog 24 #[.pointer (some ⟨p, 0, none⟩)] w fun e w' => e = .returned (.bool (twoB T.all (totalL T.set))) ∧ w.grownBy w' none := by
  have c1 := h.blk.row 43 _ (tl_tail hT.of 2)
  have c2 := h.blk.row 1 _ tl_1
  rw [Nat.zero_add] at c1 c2
  obtain ⟨al, hal⟩ : ∃ a, T.all = a := ⟨_, rfl⟩
  obtain ⟨tot, hto⟩ : ∃ a, totalL T.set = a := ⟨_, rfl⟩
  rw [hal] at c1; rw [hto] at c2; rw [hal, hto]
  have T2 := Lib.hid (show ∀ w', Calls Tryd.prog 14 #[.int .i64 al, .int .i64 tot] w' fun e w2 => e = .returned (.bool (twoB al tot)) ∧ w2 = w' from fun w' => (Two_ok al tot w').mono fun e w2 h => ⟨h.1, h.2.symm⟩)
  clear h hT hal hto
  go_enter Tryd.func24, Tryd.ntmps24
  go_wp2_with fail
  go_quiet ((go_at_call 14; exact Calls.quiet_of_same (T2.out _)))
  go_wp2_with fail
  go_ret
  exact ⟨rfl, dr_grown _ _⟩

/-- a tally that is new -/
def TD.new (ds : List ValD) (of : VoteD) : TD := ⟨ds, of, [], []⟩
theorem new_ok {ds : List ValD} {of : VoteD} (h : rightL ds = true) (hv : of.wf) : (TD.new ds of).ok := ⟨h, hv, by simp [TD.new], by simp [TD.new], by simp [TD.new], by simp [TD.new]⟩
theorem NewT {B : Nat} (v : Value) (ds : List ValD) (c : ByteArray) (h r t : Int) (w : World) (hr : RdS B w v ds.length 2 (setCells ds)) (hn : rightL ds = true) (hv : (forV c h r t).wf) (ho : okVote (forV c h r t) = true) :
    Calls Tryd.prog 18 #[v, .string c, .int .i64 h, .int .i64 r, .int .i64 t] w fun e w' => ∃ p bm bs sv, e = .returned (.tuple #[.pointer (some ⟨p, 0, none⟩), .int .i64 0]) ∧ w.grownBy w' none ∧
      TlRep w' p bm bs sv (.slice none 0 0) (TD.new ds (forV c h r t)) ∧ w.heap.size ≤ p ∧ w.heap.size ≤ bm ∧ w.heap.size ≤ bs := by
  refine (New_yes v ds c h r t w hr hn hv ho).mono ?_
  rintro e w' ⟨p, bm, bs, rfl, g, ⟨⟨sv, b, s, sp⟩, pm, ps, ms⟩, l1, l2, l3, m1, m2⟩
  have l0 : 1 ≤ ds.length := by unfold rightL at hn; simp only [Bool.and_eq_true, decide_eq_true_eq] at hn; exact hn.1.2
  refine ⟨p, bm, bs, sv, rfl, g, ⟨b, s, ⟨0, _, Nat.le_refl _, m1, votesR_nil⟩, ⟨0, _, Nat.le_refl _, m2, sumsR_nil _⟩, ⟨rfl, .inl ⟨rfl, rfl⟩⟩, pm, ps, ms, fun t ht => ?_, fun t ht => by simp [Value.ownBlock] at ht⟩, l1, l2, l3⟩
  obtain ⟨g', o, k, rfl, _, _, _, hrow⟩ := s.at_ (by omega)
  simp [Value.ownBlock] at ht
  subst ht
  have hm : ∀ q n R D (kt : TypeId), w'.ownsMap (H := Value) Tryd.prog kt R q n D → g' ≠ q := fun q n R D kt hq e => by
    subst e
    obtain ⟨es, cl, hb, _⟩ := hq
    have hl : (setCells ds).length = ds.length * 2 := s.len
    obtain ⟨u, hu⟩ : ∃ u, (setCells ds)[0]? = some u := ⟨_, List.getElem?_eq_getElem (by omega)⟩
    have := hrow 0 u hu
    simp [World.cell?, hb] at this
  exact ⟨sp _ rfl, hm _ _ _ _ _ m1, hm _ _ _ _ _ m2, by simp [Value.ownBlock]⟩

theorem no_unit (a b P : Nat) (h : a % P = 0) (g : a * b % P = 1) : False := by
  rw [Nat.mul_mod, h, Nat.zero_mul, Nat.zero_mod] at g
  cases g
theorem pow_part (x k Q : Nat) (h : k % Q ≤ Q) : x ^ (k % Q) * x ^ (Q - k % Q) = x ^ Q := by
  rw [← Nat.pow_add]
  congr 1
  omega
theorem pos_of (Q k : Nat) (hQ : 0 < Q) (g : pw 37 Q = 1) (h : pw 37 (k % Q) = 0) : False := by
  unfold pw at g h
  rw [← pow_part 37 k Q (Nat.le_of_lt (Nat.mod_lt k hQ))] at g
  exact no_unit _ _ _ h g
theorem pw_pos (k : Nat) : 1 ≤ pw 37 k := by
  rcases Nat.eq_zero_or_pos (pw 37 k) with h | h
  · exact (pos_of pQ k (by decide) gen_order ((pw_mod_order k).trans h)).elim
  · exact h
theorem sgR_u64 (x : Nat) (m : List UInt8) : sgR x m < 18446744073709551616 := pw_u64 _ _
theorem sign_wf (x : Nat) (v : VoteD) (m : List UInt8) (h : v.wf) : (v.by (pw 37 x) (sgR x m) (sgS x m)).wf := by_wf v h _ _ _ (pw_u64 _ _) (sgR_u64 _ _) (sgS_u64 _ _)
theorem signed_sign (x : Nat) (v : VoteD) (hx : keyOk x = true) (ho : okVote v = true) : signedB (v.by (pw 37 x) (sgR x (encVote v.bare)) (sgS x (encVote v.bare))) = true := by
  have e1 : okVote (v.by (pw 37 x) (sgR x (encVote v.bare)) (sgS x (encVote v.bare))) = true := ho
  have e2 : (v.by (pw 37 x) (sgR x (encVote v.bare)) (sgS x (encVote v.bare))).bare = v.bare := rfl
  have hP : 0 < pP := by decide
  have hQ : 0 < pQ := by decide
  unfold signedB
  rw [e1, e2]
  show (true && vfyL (((pw 37 x : Nat) : Int).toNat) (encVote v.bare) (((sgR x (encVote v.bare) : Nat) : Int).toNat) (((sgS x (encVote v.bare) : Nat) : Int).toNat)) = true
  rw [Int.toNat_natCast, Int.toNat_natCast, Int.toNat_natCast]
  unfold vfyL
  have a1 : 1 ≤ pw 37 x := pw_pos x
  have a2 : pw 37 x < pP := Nat.mod_lt _ hP
  have a3 : 1 ≤ sgR x (encVote v.bare) := pw_pos _
  have a4 : sgR x (encVote v.bare) < pP := Nat.mod_lt _ hP
  have a5 : sgS x (encVote v.bare) < pQ := Nat.mod_lt _ hQ
  have a6 : pw 37 (sgS x (encVote v.bare)) = sgR x (encVote v.bare) * pw (pw 37 x) (chalL (sgR x (encVote v.bare)) (pw 37 x) (encVote v.bare)) % pP := by
    unfold sgS
    exact schnorr_right x _ _
  simp [a1, a2, a3, a4, a5, a6]

def blk1 : List UInt8 := 1 :: List.replicate 31 0
def vote0 : VoteD := ⟨⟨#[97]⟩, 1, 0, 2, blk1, 0, 0, 0⟩
theorem vote0_wf : vote0.wf := ⟨by decide, by unfold i64R; decide, by unfold i64R; decide, by unfold i64R; decide, by decide, by unfold u64R; decide, by unfold u64R; decide, by unfold u64R; decide⟩
/-- the vote that alive counts -/
theorem vote1 : ∃ v : VoteD, v.wf ∧ signL 5 vote0 = (v, 0) ∧ signedB v = true ∧ v.block = blk1 ∧ (forV ⟨#[97]⟩ 1 0 2).like v = v := by
  have ho : okVote vote0 = true := by decide +kernel
  have hk : keyOk 5 = true := by decide
  refine ⟨vote0.by (pw 37 5) (sgR 5 (encVote vote0.bare)) (sgS 5 (encVote vote0.bare)), ?_, ?_, signed_sign 5 vote0 hk ho, rfl, rfl⟩
  · exact sign_wf 5 vote0 _ vote0_wf
  · unfold signL; rw [if_pos ho, if_pos hk]
theorem bBlk1 : Tryd.prog.built 25 [(0, .int .u8 1)] = some (Lib.byteCells blk1).toArray := by kernel_rfl
theorem bVote1 : Tryd.prog.built 29 [(0, .string ⟨#[97]⟩), (1, .int .i64 1), (3, .int .i64 2), (4, .agg (Lib.byteCells blk1).toArray)] = some vote0.cells.toArray := by kernel_rfl
theorem right1 (k : Int) : rightL [⟨k, 3⟩] = true := by simp [rightL, sumL, sumGo, rise]
theorem total1 (k : Int) : totalL [⟨k, 3⟩] = 3 := by unfold totalL; rw [if_pos (right1 k)]; rfl
theorem add1 {v : VoteD} (hv : v.wf) (hs : signedB v = true) (hl : (forV ⟨#[97]⟩ 1 0 2).like v = v) :
    (TD.new [⟨v.key, 3⟩] (forV ⟨#[97]⟩ 1 0 2)).add v = (⟨[⟨v.key, 3⟩], forV ⟨#[97]⟩ 1 0 2, [v], []⟩, 0) := by
  have hp : powL v.key [⟨v.key, 3⟩] = 3 := by simp [powL]
  have hf : (TD.new [⟨v.key, 3⟩] (forV ⟨#[97]⟩ 1 0 2)).fits v = true := by
    unfold TD.fits TD.new
    dsimp only
    rw [hl]
    exact (VoteD.eq_iff v v hv hv).2 rfl
  have h2 : ¬ powL v.key [⟨v.key, 3⟩] = 0 := by rw [hp]; decide
  have h3 : ¬ signedB v = false := by simp [hs]
  have h1 : ¬ TD.fits ⟨[⟨v.key, 3⟩], forV ⟨#[97]⟩ 1 0 2, [], []⟩ v = false := fun h => by
    have : TD.fits ⟨[⟨v.key, 3⟩], forV ⟨#[97]⟩ 1 0 2, [], []⟩ v = true := hf
    rw [this] at h; cases h
  show TD.add ⟨[⟨v.key, 3⟩], forV ⟨#[97]⟩ 1 0 2, [], []⟩ v = _
  unfold TD.add
  rw [if_neg h1]
  dsimp only
  rw [if_neg h2, if_neg h3]
  rfl
theorem win1 {v : VoteD} (hb : v.block = blk1) : (⟨[⟨v.key, 3⟩], forV ⟨#[97]⟩ 1 0 2, [v], []⟩ : TD).win = some blk1 ∧ (⟨[⟨v.key, 3⟩], forV ⟨#[97]⟩ 1 0 2, [v], []⟩ : TD).all = 3 := by
  refine ⟨?_, by simp [TD.all, powsL, powL]⟩
  have hp : (⟨[⟨v.key, 3⟩], forV ⟨#[97]⟩ 1 0 2, [v], []⟩ : TD).pow v.block = 3 := by simp [TD.pow, forX, powsL, powL]
  unfold TD.win
  simp only [List.find?_cons, hp, total1]
  rw [show twoB 3 3 = true from by decide]
  simp [hb]

set_option maxHeartbeats 4000000 in
theorem alive9_ok (w : World) (hR : RowAt w 0 0 (wCells rootsL)) : Calls Tryd.prog 11 #[] w fun e w' => e = .returned (.bool true) ∧ w.grownBy w' none := by
  obtain ⟨v, hv, hsg, hs, hb, hl⟩ := vote1
  have S := TSign_ok 5 vote0 w (by decide) vote0_wf hR
  rw [hsg] at S
  have HS := Lib.hid S; have HV := Lib.hid hv; have HG := Lib.hid hs; have HB := Lib.hid hb; have HL := Lib.hid hl; have HR := Lib.hid hR
  have hcl := Lib.hid (v.cells_length hv)
  have K1 := Lib.hid bBlk1; have K2 := Lib.hid bVote1
  have T34 := Lib.hid (show twoB 3 4 = true from by decide); have T23 := Lib.hid (show twoB 2 3 = false from by decide)
  obtain ⟨v0, hv0⟩ : ∃ v, vote0 = v := ⟨_, rfl⟩
  obtain ⟨bl, hbl⟩ : ∃ v, blk1 = v := ⟨_, rfl⟩
  rw [hv0] at K2 HS
  have HBL := Lib.hid hbl
  rw [hbl] at K1 K2 HB
  clear S hv hs hb hl hR hsg hv0 hbl
  go_enter Tryd.func11, Tryd.ntmps11
  go_wp2_with (first | (refine wpList_build_eq rfl 25 _ rfl [(0, .int .u8 1)] (by kernel_rfl) _ K1.out ?_) | (refine wpList_build_eq rfl 29 _ rfl [(0, .string ⟨#[97]⟩), (1, .int .i64 1), (3, .int .i64 2), (4, .agg (Lib.byteCells bl).toArray)] (by kernel_rfl) _ K2.out ?_))
  refine (show Calls Tryd.prog 9 #[.int .u64 5, .agg v0.cells.toArray] w _ from HS.out).mono ?_
  rintro e w1 ⟨rfl, g1⟩
  have G1 := Lib.hid g1
  clear g1 HS
  go_wp2_with (refine wpList_alloc_as rfl 29 rfl ZVote ZVote_info ?_)
  intro w2 b2 g2 s2
  obtain ⟨b, hb⟩ : ∃ b, w1.heap.size = b := ⟨_, rfl⟩
  rw [hb] at b2 ⊢
  have HBb := Lib.hid (show w.heap.size ≤ b by rw [← hb]; exact G1.out.size)
  have B2 := Lib.hid b2; have G2 := Lib.hid (Lib.grownBy_trans G1.out g2)
  clear b2 g2 s2 hb G1
  go_wp2_with (refine wpList_store_whole rfl 29 _ _ rfl b rfl v.cells ZVote 29 rfl B2.out (by rw [hcl.out]; rfl) (VoteD_one _) (sizeVote _ hcl.out) ?_)
  intro w3 g3 s3 b3
  have B3 := Lib.hid b3; have G3 := Lib.hid (grown_new G2.out g3 HBb.out)
  clear b3 g3 s3 B2 G2
  have ck := (VoteD.At.of_row HV.out B3.out.row).key
  rw [Nat.zero_add] at ck
  obtain ⟨k, hk⟩ : ∃ k, v.key = k := ⟨_, rfl⟩
  rw [hk] at ck
  have HK := Lib.hid hk
  clear hk
  go_wp2_with fail
  have gA : w3.grownBy (w3.alloc (.cells #[.int .u64 k, .int .i64 3] 76)) none := World.grownBy_alloc _ _ none
  have bA := Blk.new w3 [.int .u64 k, .int .i64 3] 76
  obtain ⟨sb, hsb⟩ : ∃ b, w3.heap.size = b := ⟨_, rfl⟩
  have hsA : (w3.alloc (.cells #[.int .u64 k, .int .i64 3] 76)).heap.size = sb + 1 := by simp [hsb]
  rw [hsb] at bA ⊢
  obtain ⟨w4, hw4⟩ : ∃ x, w3.alloc (.cells #[.int .u64 k, .int .i64 3] 76) = x := ⟨_, rfl⟩
  rw [show ([Value.int .u64 k, .int .i64 3] : List Value).toArray = #[.int .u64 k, .int .i64 3] from rfl] at bA
  rw [hw4] at gA bA hsA ⊢
  have B4 := Lib.hid (B3.out.grown gA (by simp)); have G4 := Lib.hid (Lib.grownBy_trans G3.out gA)
  have RD := Lib.hid (show RdS w4.heap.size w4 (.slice (some ⟨sb, 0, none⟩) 1 1) 1 2 (setCells [⟨k, 3⟩]) from ⟨_, _, rfl, Nat.le_refl _, by decide, rfl, Or.inr ⟨sb, 0, rfl, by omega, by exact bA.row⟩⟩)
  clear gA bA hsA hw4 hsb ck B3 G3
  refine (NewT (.slice (some ⟨sb, 0, none⟩) 1 1) [⟨k, 3⟩] ⟨#[97]⟩ 1 0 2 w4 RD.out (right1 k) (forV_wf _ _ _ _ (by decide) (by unfold i64R; decide) (by unfold i64R; decide) (by unfold i64R; decide)) (by decide +kernel)).mono ?_
  rintro e w5 ⟨p, bm, bs, sv, rfl, g5, t5, l1, l2, l3⟩
  have hsz : w.heap.size ≤ w4.heap.size := G4.out.size
  have B5 := Lib.hid (B4.out.grown g5 (by simp)); have G5 := Lib.hid (Lib.grownBy_trans G4.out g5); have TL5 := Lib.hid t5; have LP := Lib.hid (show w.heap.size ≤ p ∧ w.heap.size ≤ bm ∧ w.heap.size ≤ bs from ⟨by omega, by omega, by omega⟩)
  clear g5 t5 l1 l2 l3 hsz B4 G4 RD
  have A1 := add1 HV.out HG.out HL.out
  rw [HK.out] at A1
  have HA := Lib.hid A1
  clear A1
  have CA := Lib.hid (Add_ok (new_ok (right1 k) (forV_wf ⟨#[97]⟩ 1 0 2 (by decide) (by unfold i64R; decide) (by unfold i64R; decide) (by unfold i64R; decide))) HV.out TL5.out ⟨Nat.zero_le _, Nat.zero_le _⟩ (HR.out.grown G5.out (by simp)))
  rw [HA.out] at CA
  go_wp2_with (refine wpList_load_part rfl 29 _ rfl b 0 rfl v.cells _ B5.out.row Tryd.underlying29 rfl (v.size HV.out) ?_)
  refine CA.out.mono ?_
  rintro e w6 ⟨rfl, k6, tv, t6, _⟩
  have G6 := Lib.hid ((Kp.still G5.out).trans k6 (S := fun _ => False) (fun i hi h => by
    have := LP.out
    rcases h with h | h | h | h
    · omega
    · omega
    · omega
    · simp [Value.ownBlock] at h))
  have G6 := Lib.hid (G6.out.grown (fun _ _ => id)); have TL6 := Lib.hid t6
  clear k6 t6 B5 G5 TL5 CA
  have ok6 : TD.ok ⟨[⟨k, 3⟩], forV ⟨#[97]⟩ 1 0 2, [v], []⟩ := by
    have := TD.add_ok (new_ok (right1 k) (forV_wf ⟨#[97]⟩ 1 0 2 (by decide) (by unfold i64R; decide) (by unfold i64R; decide) (by unfold i64R; decide))) HV.out
    rwa [HA.out] at this
  have OK6 := Lib.hid ok6
  have W6 := win1 (v := v) (HB.out.trans HBL.out.symm)
  rw [HK.out] at W6
  have W6a := Lib.hid W6.1; have W6b := Lib.hid W6.2
  clear ok6 W6
  have CW := Lib.hid (WinnerT OK6.out TL6.out)
  rw [W6a.out] at CW
  go_wp2_with fail
  refine CW.out.mono ?_
  rintro e w7 ⟨rfl, g7⟩
  have G7 := Lib.hid (Lib.grownBy_trans G6.out g7); have TL7 := Lib.hid (TL6.out.grown g7)
  clear g7 CW G6 TL6
  rw [show winC (some blk1) = Lib.byteCells bl by rw [HBL.out]; rfl]
  go_wp2_with (refine wpList_alloc_as rfl 25 rfl ZH ZH_info ?_)
  intro w8 b8 g8 s8
  obtain ⟨c, hc⟩ : ∃ b, w7.heap.size = b := ⟨_, rfl⟩
  rw [hc] at b8 ⊢
  have hbl := Lib.hid (show bl.length = 32 by rw [← HBL.out]; rfl)
  have HC := Lib.hid (show w.heap.size ≤ c by rw [← hc]; exact G7.out.size)
  have B8 := Lib.hid b8; have G8 := Lib.hid (Lib.grownBy_trans G7.out g8); have TL8 := Lib.hid (TL7.out.grown g8)
  have HCn := Lib.hid (show p ≠ c ∧ bm ≠ c ∧ bs ≠ c ∧ (∀ g, sv.ownBlock = some g → g ≠ c) ∧ (∀ g, tv.ownBlock = some g → g ≠ c) from by
    have h := TL7.out
    obtain ⟨_, _, _, hD, _⟩ := h.votes
    obtain ⟨_, _, _, hE, _⟩ := h.sums
    have h1 := h.blk.lt; have h2 := hD.lt; have h3 := hE.lt
    refine ⟨by omega, by omega, by omega, fun g hg => ?_, fun g hg => by have := ownsRow.lt h.twice hg; omega⟩
    obtain ⟨ao, q, rfl, _, _, _, ⟨rfl, _⟩ | ⟨g', o, rfl, hlt, _⟩⟩ := h.set
    · simp [Value.ownBlock] at hg
    · simp [Value.ownBlock] at hg; omega)
  clear b8 g8 s8 hc G7 TL7
  go_wp2_with (refine wpList_store_whole rfl 25 _ _ rfl c rfl (Lib.byteCells bl) ZH 25 rfl B8.out (by rw [Lib.byteCells_length, hbl.out]; rfl) (oneCell_bytes _) (sizeH _ (by rw [Lib.byteCells_length, hbl.out])) ?_)
  intro w9 g9 s9 b9
  have TL9 := Lib.hid (TL8.out.kp (S := fun i => i = c) (Kp.of g9 (fun i e _ => by cases e; rfl)) HCn.out.1 HCn.out.2.1 HCn.out.2.2.1 (fun g h => HCn.out.2.2.2.1 g h) (fun g h => HCn.out.2.2.2.2 g h))
  have G9 := Lib.hid (grown_new G8.out g9 HC.out)
  have c9 : w9.cell? ⟨c, 0, none⟩ = some (.int .u8 1) := by
    have := b9.row 0 (.int .u8 1) (by rw [← HBL.out]; rfl)
    rwa [Nat.zero_add] at this
  have l9 := Lib.hid b9.lt
  clear g9 s9 b9 B8 G8 TL8
  have CA := Lib.hid (AllT OK6.out TL9.out)
  rw [W6b.out] at CA
  have T1 := Lib.hid (Two_ok 3 4 w9); have T2 := Lib.hid (Two_ok 2 3 w9)
  rw [T34.out] at T1; rw [T23.out] at T2
  go_wp2_with (first | (go_at_call 23; refine CA.out.mono ?_; rintro e w' ⟨rfl, rfl⟩) | (go_at_call 14; first | (with_reducible refine T1.out.mono ?_; rintro e w' ⟨rfl, rfl⟩) | (with_reducible refine T2.out.mono ?_; rintro e w' ⟨rfl, rfl⟩)))
  go_ret
  exact ⟨rfl, G9.out⟩

end Go.Proofs.YtfnginmoiecgnaaDoor
