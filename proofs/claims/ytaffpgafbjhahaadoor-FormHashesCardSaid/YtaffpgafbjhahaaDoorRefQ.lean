/- Walk: nuncioref06.Proof. -/
import Derived.Test.YtaffpgafbjhahaaDoorRefP
namespace Go.Proofs.YtaffpgafbjhahaaDoor
open Go.RowKit
set_option maxRecDepth 100000

theorem okPart_all (l : List PartD) : (l.all fun x => inR x.index 0 4096 && (decide (x.key.size ≤ 4096) && (decide (x.value.size ≤ 4096) && decide (x.path.length ≤ 16)))) = ((l.all fun x => inR x.index 0 4096) && (l.all fun x => decide (x.path.length ≤ 16)) && !(l.any pBad)) := by
  induction l with
  | nil => rfl
  | cons x l ih =>
    rw [List.all_cons, List.all_cons, List.all_cons, List.any_cons, ih]
    have e : pBad x = !(decide (x.key.size ≤ 4096) && decide (x.value.size ≤ 4096)) := by
      unfold pBad
      by_cases h1 : x.key.size ≤ 4096
      · by_cases h2 : x.value.size ≤ 4096
        · simp [h1, h2, Nat.not_lt.2 h1, Nat.not_lt.2 h2]
        · simp [h2, Nat.lt_of_not_le h2]
      · simp [h1, Nat.lt_of_not_le h1]
    rw [e]
    cases inR x.index 0 4096 <;> cases decide (x.key.size ≤ 4096) <;> cases decide (x.value.size ≤ 4096) <;> cases decide (x.path.length ≤ 16) <;> simp
def okP1 (x : PartD) : Bool := inR x.index 0 4096 && (decide (x.key.size ≤ 4096) && (decide (x.value.size ≤ 4096) && decide (x.path.length ≤ 16)))
theorem okProof_eq (p : ProofD) : okProof p = (inR p.size 0 4096 && (decide (p.parts.length ≤ 2) && p.parts.all okP1)) := by
  have := okPart_all p.parts
  unfold okProof rightP chkProof
  rw [show p.parts.all okP1 = _ from this]
  cases inR p.size 0 4096 <;> cases decide (p.parts.length ≤ 2) <;> cases (p.parts.all fun x => inR x.index 0 4096) <;> cases (p.parts.all fun x => decide (x.path.length ≤ 16)) <;> simp
/-- append(b, c...), and block m (none of b's) stays -/
theorem wpList_appM {ops : Array Oper} {rest : List Oper} {o : Oper} {a : Act} {w : World} {Q : Exit → Act → World → Prop} (hgd : Region.wanted o (yielded ops a.tmps) = true) (s x : Operand)
    (ho : o.op = .call { callee := .builtin .append, args := #[s, x], argTypes := #[30, 30] }) {B : Nat} {v : Value} {l : List UInt8} (hs : a.eval s = v) (hown : OwnB B v l w)
    {xv : Value} {q : List UInt8} (hx : a.eval x = xv) (hr : RdB w xv q) (hlen : l.length + q.length ≤ 140737488355328) (hB : B ≤ w.heap.size) (m : Nat) (hm : v.ownBlock ≠ some m ∧ m < w.heap.size)
    (h : ∀ a' n' c' w', OwnB B (.slice a' n' c') (l ++ q) w' → Below B w w' → w'.heap[m]? = w.heap[m]? → (Value.slice a' n' c').ownBlock ≠ some m ∧ m < w'.heap.size → wpList Tryd.prog ops Q rest (a.put o.dst (.slice a' n' c')) w') : wpList Tryd.prog ops Q (o :: rest) a w := by
  refine wpList_wanted hgd fun K hK => ?_
  refine wp_append_srcs w s x 30 30 ho B 5 (.int .u8 0) 1 1 Tryd.underlying30 u8_info rfl v l.length (Lib.byteCells l) hs hown xv q.length _ hx hr.src (by unfold maxLen; omega) (by omega) hB ?_
  intro v' w' h1 hg h2 h4
  have h3 := OwnB.add h1 rfl rfl
  obtain ⟨a', n', c', rfl⟩ := h3.shape
  refine hK _ _ (h a' n' c' w' h3 h2 (hg.block m hm.2 hm.1.symm) ⟨?_, Nat.lt_of_lt_of_le hm.2 hg.size⟩)
  rcases h4 with h4 | h4
  · rw [h4]; exact hm.1
  · rw [h4]; intro e; injection e with e; omega
theorem Blk.same {w w' : World} {m : Nat} {cs : List Value} {T : TypeId} (h : Blk w m cs T) (hk : w'.heap[m]? = w.heap[m]?) : Blk w' m cs T := hk.trans h
theorem OwnB.ne {B m : Nat} {v : Value} {l : List UInt8} {w : World} (h : OwnB B v l w) (hm : w.heap.size ≤ m) : v.ownBlock ≠ some m := by
  intro e
  have := (World.ownsRow.lt h m e).2
  omega

set_option maxHeartbeats 4000000 in
theorem RProof {B : Nat} (p : ProofD) (cs : List Value) (w : World) (hr : p.rep B w cs) (hB : B ≤ w.heap.size) (hp : p.wf) :
    Calls Tryd.prog 17 #[.agg cs.toArray] w (BytesIf (encProof p) (okProof p) w) := by
  obtain ⟨sl, pcs, hsl, hps, rfl⟩ := hr
  obtain ⟨ao, cp, rfl, hle, hcm, _, hrow⟩ := hsl
  unfold maxLen at hcm
  obtain ⟨W, hW, hblk, _, _, hb, hsz⟩ := box_as w [.int .i64 p.size, .slice ao p.parts.length cp] 41
  have HW := Lib.hid hW; have Bk := Lib.hid (show Blk W w.heap.size [.int .i64 p.size, .slice ao p.parts.length cp] 41 from hblk)
  have HBel := Lib.hid hb; have HS := Lib.hid hsz; have HB := Lib.hid hB; have HPS := Lib.hid hps; have Hp := Lib.hid hp
  have Hrow : Hid ((ao = none ∧ p.parts.length = 0 ∧ cp = 0) ∨ ∃ g o, ao = some ⟨g, o, none⟩ ∧ g < w.heap.size ∧ RowAt W g o pcs) := by
    rcases hrow with h | ⟨g, o, e, hg, hr⟩
    · exact Lib.hid (Or.inl h)
    · exact Lib.hid (Or.inr ⟨g, o, e, by omega, hr.below hb (by omega)⟩)
  have c0 := Bk.out.row 0 _ rfl; rw [Nat.zero_add] at c0
  clear hW hblk hb hsz hps hrow hB hp
  go_enter Tryd.func17, Tryd.ntmps17
  go_upto_region 1 with (fail)
  rw [HW.out]
  clear HW
  obtain ⟨ok, hok⟩ : ∃ ok, (inR p.size 0 4096 && decide (p.parts.length ≤ 2)) = ok := ⟨_, rfl⟩
  have Hok := Lib.hid hok; clear hok
  go_cut [4] from 9 (fun s4 w' => s4 = .bool ok ∧ W = w')
  case first =>
    have c1 := Bk.out.row 1 _ rfl; rw [Nat.zero_add] at c1
    go_wp2_with fail
    refine (in_any _ _ _ _).mono ?_; rintro e w' ⟨rfl, rfl⟩
    cases h1 : inR p.size 0 4096
    · have e := Lib.hid (show false = ok by rw [← Hok.out, h1]; rfl); clear h1
      go_wp2_with fail
      go_meet
      case rel => exact ⟨val_bool e.out, rfl⟩
    · by_cases h3 : p.parts.length ≤ 2
      · have d : decide ((p.parts.length : Int) ≤ 2) = true := by simp; omega
        have e := Lib.hid (show true = ok by rw [← Hok.out, h1, decide_eq_true h3]; rfl); clear h1
        go_wp2_with fail
        go_meet
        case rel => exact ⟨val_bool e.out, rfl⟩
      · have d : decide ((p.parts.length : Int) ≤ 2) = false := by simp; omega
        have e := Lib.hid (show false = ok by rw [← Hok.out, h1, decide_eq_false h3]; rfl); clear h1
        go_wp2_with fail
        go_meet
        case rel => exact ⟨val_bool e.out, rfl⟩
  case rest =>
  obtain ⟨rfl, rfl⟩ := hcut
  go_upto_region 2 with (fail)
  go_cut [5] from 18 (fun s5 w' => OwnB (w.heap.size + 1) s5 (be64 7 ++ be64 p.size) w' ∧ Below (w.heap.size + 1) W w')
  case first =>
    have hs1 : w.heap.size + 1 ≤ W.drew.heap.size := Nat.le_of_eq HS.out.symm
    go_region_held3 (fun w' => w'.cell? ⟨w.heap.size, 0, none⟩ = some (.int .i64 p.size)) (first | assumption) (first | (go_at_call 52; refine (MNumber 7 W.drew).mono ?_; rintro e w1 ⟨a1, n1, k1, rfl, o1, b1⟩; have hk1 := cell_keep (w := W.drew) c0 b1; have hs2 := Nat.le_trans hs1 b1.size) | (go_at_call 52; refine (MNumber p.size w1).mono ?_; rintro e w2 ⟨a2, n2, k2, rfl, o2, b2⟩; have hk2 := cell_keep hk1 b2; have hs3 := Nat.le_trans hs2 b2.size) | (refine step_app (by rfl) _ _ (by rfl) (by rfl) ((o1.below b2).mono hs1) (by rfl) o2.rd ?_ hs3 ?_; (rw [be64_length, be64_length]; omega); intro a3 n3 k3 w3 o3 b3; have hk3 : w3.cell? ⟨w.heap.size, 0, none⟩ = some (.int .i64 p.size) := (b3.cell (p := ⟨w.heap.size, 0, none⟩) (Nat.lt_succ_self _)).trans hk2))
    go_wp2
    go_meet
    case rel => exact ⟨o3, ((show Below (w.heap.size + 1) W W.drew from (Below.refl _ _).drew).trans ((b1.mono hs1).trans (b2.mono hs2))).trans b3⟩
  case rest =>
  obtain ⟨o, b⟩ := hcut
  obtain ⟨a, n, k, rfl⟩ := o.shape
  have OB := Lib.hid o; have Bel := Lib.hid b; clear o b c0
  have Z := Lib.hid (show w.heap.size + 1 ≤ wc.heap.size from Nat.le_trans (Nat.le_of_eq HS.out.symm) Bel.out.size)
  have cc := (Bk.out.below Bel.out (Nat.lt_succ_self _)).row 1 _ rfl; rw [Nat.zero_add] at cc
  go_wp2_with fail
  refine (MNumber _ _).mono ?_
  rintro e w1 ⟨a1, n1, k1, rfl, o, b⟩
  have OR := Lib.hid o.rd; replace OB := Lib.hid (OB.out.below b); replace Bel := Lib.hid (Bel.out.trans (b.mono Z.out)); replace Z := Lib.hid (Nat.le_trans Z.out b.size); clear o b cc
  go_wp2_with (refine wpList_app rfl _ _ rfl rfl OB.out rfl OR.out ?_ Z.out ?_; (simp only [List.length_append, be64_length]; omega); intro a2 n2 k2 w2 o b; replace OB := Lib.hid o; replace Bel := Lib.hid (Bel.out.trans b); replace Z := Lib.hid (Nat.le_trans Z.out b.size); clear o b OR)
  go_loopw [4, 5, 6] (fun q x i wr => ∃ k : Nat, k ≤ p.parts.length ∧ i = .int .i64 k ∧ q = .bool ok ∧ (ok = false → k = 0) ∧ (p.parts.take k).all okP1 = true ∧ OwnB (w.heap.size + 1) x (be64 7 ++ be64 p.size ++ be64 p.parts.length ++ encParts (p.parts.take k)) wr ∧ Below (w.heap.size + 1) W wr) (fun _ _ i _ => p.parts.length - (intOf i).toNat)
  case atStart => exact ⟨0, Nat.zero_le _, rfl, rfl, fun _ => rfl, rfl, by simpa [encParts] using OB.out, Bel.out⟩
  case round =>
    obtain ⟨k, hk, rfl, rfl, hk0, ha, ho, hb⟩ := hrel
    obtain ⟨xa, xn, xk, rfl⟩ := ho.shape
    have Ho := Lib.hid ho; have Hb := Lib.hid hb; have Ha := Lib.hid ha; clear ho hb ha
    have Zr := Lib.hid (show w.heap.size + 1 ≤ wr.heap.size from Nat.le_trans (Nat.le_of_eq HS.out.symm) Hb.out.size)
    have cc := (Bk.out.below Hb.out (Nat.lt_succ_self _)).row 1 _ rfl; rw [Nat.zero_add] at cc
    cases hok2 : ok with
    | false =>
      subst hok2
      have e := Lib.hid (show false = okProof p by rw [okProof_eq, ← Bool.and_assoc, Hok.out]; rfl)
      obtain rfl := hk0 rfl
      by_cases hlt : 0 < p.parts.length
      · go_wp2_with fail
        go_ret2
        exact ⟨_, _, _, ret_two e.out, (fun h => by rw [← e.out] at h; cases h), HBel.out.trans (Hb.out.mono (by omega))⟩
      · have e0 : p.parts.length = 0 := by omega
        go_wp2_with fail
        go_ret2
        exact ⟨_, _, _, ret_two e.out, (fun h => by rw [← e.out] at h; cases h), HBel.out.trans (Hb.out.mono (by omega))⟩
    | true =>
    subst hok2
    clear hk0
    have H2 := Lib.hid (show p.parts.length ≤ 2 by have := Hok.out; simp at this; exact this.2)
    by_cases hlt : k < p.parts.length
    · rcases Hrow.out with ⟨_, h0, _⟩ | ⟨g, o, rfl, hg, hrow⟩
      · omega
      obtain ⟨pv, hpv, hcs⟩ := HPS.out.get k hlt
      obtain ⟨pa, pk, rfl, hple, hpm, _, hprow⟩ := RdE.below hpv HBel.out HB.out
      unfold maxLen at hpm
      have R := Lib.hid (show RowAt wr g (o + k * 4) (p.parts[k].cells (.slice pa p.parts[k].path.length pk)) by have := (hrow.below Hb.out (by omega)).part (k * 4) 4; rwa [hcs] at this)
      have Ht := Lib.hid (all_take okP1 p.parts k hlt)
      have Hn := Lib.hid (all_no okP1 p.parts k hlt)
      have He := Lib.hid (encParts_take p.parts k hlt)
      have Hwd := Lib.hid (Hp.out.parts p.parts[k] (List.getElem_mem _))
      have Hpr := Lib.hid hprow
      have hlp : (encParts (p.parts.take k)).length ≤ 9000 * (p.parts.take k).length := encParts_len _ (fun x hx => by
        have h1 := List.all_eq_true.1 Ha.out x hx
        simp only [okP1, Bool.and_eq_true, decide_eq_true_eq] at h1
        exact ⟨h1.2.2.2, Hp.out.parts x (List.mem_of_mem_take hx)⟩)
      have hlk : (p.parts.take k).length ≤ 2 := by rw [List.length_take]; have := H2.out; omega
      obtain ⟨d, hd⟩ : ∃ d, d = p.parts[k] := ⟨_, rfl⟩
      rw [← hd] at R Ht Hn He Hwd Hpr hple
      obtain ⟨bs, hbs⟩ : ∃ x, be64 7 ++ be64 p.size ++ be64 p.parts.length ++ encParts (p.parts.take k) = x := ⟨_, rfl⟩
      have Hl := Lib.hid (show bs.length ≤ 20000 by rw [← hbs]; simp only [List.length_append, be64_length]; omega)
      rw [hbs] at Ho
      have Hbs := Lib.hid hbs
      obtain ⟨m, hmm⟩ : ∃ m, wr.heap.size = m := ⟨_, rfl⟩
      have Hmm := Lib.hid hmm
      clear hd hrow hg hpv hcs hprow hlp hlk hbs hmm
      go_wp2_with (first | (refine wpList_load_part rfl 46 _ rfl g (o + k * 4) rfl (d.cells (.slice pa d.path.length pk)) _ R.out Tryd.underlying46 rfl sizePart ?_) | (refine wpList_alloc_as rfl 46 rfl ZPart ZPart_info ?_))
      intro w4 b4 g4 s4
      have B4 := Lib.hid b4; have G4 := Lib.hid g4; clear b4 g4 s4
      go_wp2_with (refine wpList_store_whole rfl 46 _ _ rfl wr.heap.size rfl (d.cells (.slice pa d.path.length pk)) ZPart 46 rfl B4.out rfl (PartD_one d _ _ _) sizePart ?_)
      intro w5 g5 s5 b5
      have gn := grown_new G4.out g5 (Nat.le_refl _)
      rw [Hmm.out] at b5 ⊢
      have Bm := Lib.hid b5
      have OB := Lib.hid (Ho.out.kept gn)
      have Bel := Lib.hid (WK.over (b := w.heap.size + 1) (WK.refl _ _ wr) gn Zr.out)
      have NE := Lib.hid (show (Value.slice xa xn xk).ownBlock ≠ some m ∧ m < w5.heap.size from ⟨Ho.out.ne (Nat.le_of_eq Hmm.out), b5.lt⟩)
      have Z := Lib.hid (Nat.le_trans Zr.out gn.size)
      clear b5 g5 s5 gn B4 G4 R cc
      have Ob5 := Lib.hid (show Below (w.heap.size + 1) W w5 from Hb.out.trans Bel.out)
      go_upto_region 8 with (fail)
      go_cut [4] from 44 to 106 (fun s4 w' => s4 = .bool (okP1 d) ∧ w5 = w')
      case first =>
        have c0 := Bm.out.row 0 _ rfl; rw [Nat.zero_add] at c0
        have c1 := Bm.out.row 1 _ rfl; rw [Nat.zero_add] at c1
        have c2 := Bm.out.row 2 _ rfl; rw [Nat.zero_add] at c2
        have c3 := Bm.out.row 3 _ rfl; rw [Nat.zero_add] at c3
        go_wp2_with fail
        refine (in_any _ _ _ _).mono ?_; rintro e w' ⟨rfl, rfl⟩
        cases h1 : inR d.index 0 4096
        · have e := Lib.hid (show false = okP1 d by unfold okP1; rw [h1]; rfl); clear h1
          go_wp2_with fail
          go_meet
          case rel => exact ⟨val_bool e.out, rfl⟩
        by_cases q1 : d.key.size ≤ 4096
        case neg =>
          have d1 : decide ((d.key.size : Int) ≤ 4096) = false := by simp; omega
          have e := Lib.hid (show false = okP1 d by unfold okP1; rw [decide_eq_false q1]; simp); clear h1
          go_wp2_with fail
          go_meet
          case rel => exact ⟨val_bool e.out, rfl⟩
        have d1 : decide ((d.key.size : Int) ≤ 4096) = true := by simp; omega
        by_cases q2 : d.value.size ≤ 4096
        case neg =>
          have d2 : decide ((d.value.size : Int) ≤ 4096) = false := by simp; omega
          have e := Lib.hid (show false = okP1 d by unfold okP1; rw [decide_eq_false q2]; simp); clear h1
          go_wp2_with fail
          go_meet
          case rel => exact ⟨val_bool e.out, rfl⟩
        have d2 : decide ((d.value.size : Int) ≤ 4096) = true := by simp; omega
        by_cases q3 : d.path.length ≤ 16
        · have d3 : decide ((d.path.length : Int) ≤ 16) = true := by simp; omega
          have e := Lib.hid (show true = okP1 d by unfold okP1; rw [h1, decide_eq_true q1, decide_eq_true q2, decide_eq_true q3]; rfl); clear h1
          go_wp2_with fail
          go_meet
          case rel => exact ⟨val_bool e.out, rfl⟩
        · have d3 : decide ((d.path.length : Int) ≤ 16) = false := by simp; omega
          have e := Lib.hid (show false = okP1 d by unfold okP1; rw [decide_eq_false q3]; simp); clear h1
          go_wp2_with fail
          go_meet
          case rel => exact ⟨val_bool e.out, rfl⟩
      case rest =>
      obtain ⟨rfl, rfl⟩ := hcut
      cases hk1 : okP1 d with
      | false =>
        have e := Lib.hid (show false = okProof p by rw [okProof_eq, Hn.out hk1]; simp)
        go_wp2_with fail
        go_ret2
        exact ⟨_, _, _, ret_two e.out, (fun h => by rw [← e.out] at h; cases h), HBel.out.trans (Ob5.out.mono (by omega))⟩
      | true =>
      have HK := Lib.hid (show d.key.size ≤ 4096 ∧ d.value.size ≤ 4096 ∧ d.path.length ≤ 16 by
        simp only [okP1, Bool.and_eq_true, decide_eq_true_eq] at hk1; exact hk1.2)
      replace Hn := Lib.hid hk1; clear hk1
      have Ep := Lib.hid (show encPart d = be64 d.index ++ textL d.key ++ textL d.value ++ be64 d.path.length ++ d.path.flatten by
        unfold encPart textW; rw [if_pos HK.out.1, if_pos HK.out.2.1])
      have c := Bm.out.row 0 _ rfl; rw [Nat.zero_add] at c
      go_wp2_with fail
      refine (MNumber _ _).mono ?_
      rintro e w6 ⟨a1, n1, k1, rfl, o, b⟩
      have OR := Lib.hid o.rd; replace OB := Lib.hid (OB.out.below b); replace Bel := Lib.hid (Bel.out.trans (b.mono Z.out)); replace Bm := Lib.hid (Bm.out.below b NE.out.2); replace NE := Lib.hid (And.intro NE.out.1 (Nat.lt_of_lt_of_le NE.out.2 b.size)); replace Z := Lib.hid (Nat.le_trans Z.out b.size); clear o b c
      go_wp2_with (refine wpList_appM rfl _ _ rfl rfl OB.out rfl OR.out ?_ Z.out m NE.out ?_; (simp only [be64_length]; have := Hl.out; have := HK.out; omega); intro a2 n2 k2 w2 o b sm ne; replace OB := Lib.hid o; replace Bel := Lib.hid (Bel.out.trans b); replace Bm := Lib.hid (Bm.out.same sm); replace NE := Lib.hid ne; replace Z := Lib.hid (Nat.le_trans Z.out b.size); clear o b sm ne OR; have c := Bm.out.row 1 _ rfl; rw [Nat.zero_add] at c)
      refine (MText _ _ (by have := HK.out; omega)).mono ?_
      rintro e w6 ⟨a1, n1, k1, rfl, o, b⟩
      have OR := Lib.hid o.rd; replace OB := Lib.hid (OB.out.below b); replace Bel := Lib.hid (Bel.out.trans (b.mono Z.out)); replace Bm := Lib.hid (Bm.out.below b NE.out.2); replace NE := Lib.hid (And.intro NE.out.1 (Nat.lt_of_lt_of_le NE.out.2 b.size)); replace Z := Lib.hid (Nat.le_trans Z.out b.size); clear o b c
      go_wp2_with (refine wpList_appM rfl _ _ rfl rfl OB.out rfl OR.out ?_ Z.out m NE.out ?_; (simp only [List.length_append, be64_length, textL_length]; have := Hl.out; have := HK.out; omega); intro a2 n2 k2 w2 o b sm ne; replace OB := Lib.hid o; replace Bel := Lib.hid (Bel.out.trans b); replace Bm := Lib.hid (Bm.out.same sm); replace NE := Lib.hid ne; replace Z := Lib.hid (Nat.le_trans Z.out b.size); clear o b sm ne OR; have c := Bm.out.row 2 _ rfl; rw [Nat.zero_add] at c)
      refine (MText _ _ (by have := HK.out; omega)).mono ?_
      rintro e w6 ⟨a1, n1, k1, rfl, o, b⟩
      have OR := Lib.hid o.rd; replace OB := Lib.hid (OB.out.below b); replace Bel := Lib.hid (Bel.out.trans (b.mono Z.out)); replace Bm := Lib.hid (Bm.out.below b NE.out.2); replace NE := Lib.hid (And.intro NE.out.1 (Nat.lt_of_lt_of_le NE.out.2 b.size)); replace Z := Lib.hid (Nat.le_trans Z.out b.size); clear o b c
      go_wp2_with (refine wpList_appM rfl _ _ rfl rfl OB.out rfl OR.out ?_ Z.out m NE.out ?_; (simp only [List.length_append, be64_length, textL_length]; have := Hl.out; have := HK.out; omega); intro a2 n2 k2 w2 o b sm ne; replace OB := Lib.hid o; replace Bel := Lib.hid (Bel.out.trans b); replace Bm := Lib.hid (Bm.out.same sm); replace NE := Lib.hid ne; replace Z := Lib.hid (Nat.le_trans Z.out b.size); clear o b sm ne OR; have c := Bm.out.row 3 _ rfl; rw [Nat.zero_add] at c)
      refine (MNumber _ _).mono ?_
      rintro e w6 ⟨a1, n1, k1, rfl, o, b⟩
      have OR := Lib.hid o.rd; replace OB := Lib.hid (OB.out.below b); replace Bel := Lib.hid (Bel.out.trans (b.mono Z.out)); replace Bm := Lib.hid (Bm.out.below b NE.out.2); replace NE := Lib.hid (And.intro NE.out.1 (Nat.lt_of_lt_of_le NE.out.2 b.size)); replace Z := Lib.hid (Nat.le_trans Z.out b.size); clear o b c
      go_wp2_with (refine wpList_appM rfl _ _ rfl rfl OB.out rfl OR.out ?_ Z.out m NE.out ?_; (simp only [List.length_append, be64_length, textL_length]; have := Hl.out; have := HK.out; omega); intro a2 n2 k2 w2 o b sm ne; replace OB := Lib.hid o; replace Bel := Lib.hid (Bel.out.trans b); replace Bm := Lib.hid (Bm.out.same sm); replace NE := Lib.hid ne; replace Z := Lib.hid (Nat.le_trans Z.out b.size); clear o b sm ne OR)
      obtain ⟨bs2, hbs2⟩ : ∃ x, bs ++ be64 d.index ++ textL d.key ++ textL d.value ++ be64 d.path.length = x := ⟨_, rfl⟩
      have Hl2 := Lib.hid (show bs2.length ≤ 30000 by rw [← hbs2]; simp only [List.length_append, be64_length, textL_length]; have := Hl.out; have := HK.out; omega)
      rw [hbs2] at OB
      have Hbs2 := Lib.hid hbs2; clear hbs2
      have Oba := Lib.hid (Hb.out.trans Bel.out)
      go_loopw [5, 8] (fun x i wr => ∃ j : Nat, j ≤ d.path.length ∧ i = .int .i64 j ∧ OwnB (w.heap.size + 1) x (bs2 ++ (d.path.take j).flatten) wr ∧ Below (w.heap.size + 1) W wr ∧ Blk wr m (d.cells (.slice pa d.path.length pk)) 46 ∧ x.ownBlock ≠ some m ∧ m < wr.heap.size) (fun _ i _ => d.path.length - (intOf i).toNat)
      case atStart => exact ⟨0, Nat.zero_le _, rfl, by simpa using OB.out, Oba.out, Bm.out, NE.out⟩
      case round =>
        obtain ⟨j, hj, rfl, ho2, hb2, hm2, hne⟩ := hrel
        obtain ⟨ya, yn, yk, rfl⟩ := ho2.shape
        have O2 := Lib.hid ho2; have Hb2 := Lib.hid hb2; have Hm2 := Lib.hid hm2; have Hne := Lib.hid hne; clear ho2 hb2 hm2 hne
        have Z2 := Lib.hid (show w.heap.size + 1 ≤ wr.heap.size from Nat.le_trans (Nat.le_of_eq HS.out.symm) Hb2.out.size)
        have c := Hm2.out.row 3 _ rfl; rw [Nat.zero_add] at c
        by_cases hlt2 : j < d.path.length
        · rcases Hpr.out with ⟨_, h0, _⟩ | ⟨g2, o2, rfl, hg2, hrow2⟩
          · omega
          have R2 := Lib.hid (RowAt.elem (f := Lib.byteCells) (k := 32) (hrow2.below Hb2.out (by have := HB.out; omega)) (fun x hx => by rw [Lib.byteCells_length]; exact Hwd.out.path x hx) j hlt2)
          have Ht2 := Lib.hid (take_hash d.path j hlt2)
          have Hl3 := Lib.hid (show (bs2 ++ (d.path.take j).flatten).length ≤ 40000 by
            rw [List.length_append, flat32_len _ (fun y hy => Hwd.out.path y (List.mem_of_mem_take hy)), List.length_take]; have := Hl2.out; have := HK.out; omega)
          obtain ⟨x, hx⟩ : ∃ x, x = d.path[j] := ⟨_, rfl⟩
          have Hx := Lib.hid (Hwd.out.path x (by rw [hx]; exact List.getElem_mem _))
          rw [← hx] at R2 Ht2
          clear hx hrow2 hg2
          go_wp2_with (refine wpList_load_part rfl 24 _ rfl g2 (o2 + j * 32) rfl (Lib.byteCells x) _ R2.out Tryd.underlying24 rfl (hash_size _ Hx.out) ?_)
          refine (MHash _ _ Hx.out).mono ?_
          rintro e w6 ⟨a1, n1, k1, rfl, o, b⟩
          have OR := Lib.hid o.rd; replace O2 := Lib.hid (O2.out.below b); have Bj := Lib.hid (b.mono Z2.out); replace Hm2 := Lib.hid (Hm2.out.below b Hne.out.2); replace Hne := Lib.hid (And.intro Hne.out.1 (Nat.lt_of_lt_of_le Hne.out.2 b.size)); replace Z2 := Lib.hid (Nat.le_trans Z2.out b.size); clear o b c
          go_wp2_with (refine wpList_appM rfl _ _ rfl rfl O2.out rfl OR.out ?_ Z2.out m Hne.out ?_; (have := Hl3.out; have := Hx.out; omega); intro a2 n2 k2 w2 o b sm ne; replace O2 := Lib.hid o; replace Bj := Lib.hid (Bj.out.trans b); replace Hm2 := Lib.hid (Hm2.out.same sm); replace Hne := Lib.hid ne; clear o b sm ne OR)
          refine ⟨⟨j + 1, by omega, by go_num, ?_, Hb2.out.trans Bj.out, Hm2.out, Hne.out⟩, by simp [intOf]; omega⟩
          have := O2.out
          rw [Ht2.out]
          simpa only [List.append_assoc] using this
        · obtain rfl : j = d.path.length := by omega
          go_wp2_with fail
          refine ⟨⟨k + 1, by omega, by go_num, rfl, (fun h => by cases h), by rw [Ht.out, Ha.out, Hn.out]; rfl, ?_, Hb2.out⟩, by simp [intOf]; omega⟩
          have := O2.out
          rw [List.take_of_length_le (Nat.le_refl _), ← Hbs2.out, ← Hbs.out] at this
          rw [He.out, Ep.out]
          simpa only [List.append_assoc] using this
    · obtain rfl : k = p.parts.length := by omega
      have e := Lib.hid (show true = okProof p by
        have := Ha.out; rw [List.take_of_length_le (Nat.le_refl _)] at this
        rw [okProof_eq, ← Bool.and_assoc, Hok.out, this]; rfl)
      have Hf := Lib.hid (show encProof p = be64 7 ++ be64 p.size ++ be64 p.parts.length ++ encParts (p.parts.take p.parts.length) by rw [List.take_of_length_le (Nat.le_refl _)]; rfl)
      go_wp2_with fail
      go_ret2
      exact ⟨_, _, _, ret_two e.out, (fun _ => by rw [Hf.out]; exact Ho.out.mono (by omega)), HBel.out.trans (Hb.out.mono (by omega))⟩

end Go.Proofs.YtaffpgafbjhahaaDoor
