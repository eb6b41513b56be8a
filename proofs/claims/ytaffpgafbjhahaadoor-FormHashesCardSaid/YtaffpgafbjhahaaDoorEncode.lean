/- Walks: forms.EncodeHeader, EncodeSet, EncodeCommit, EncodeLight. Walks: forms.EncodeLight, EncodeCommit. -/
import Derived.Test.YtaffpgafbjhahaaDoorEncL
namespace Go.Proofs.YtaffpgafbjhahaaDoor
open Go.RowKit
set_option maxRecDepth 100000

def okSet (l : List ValD) : Bool := decide (l.length ≤ 64)
def okCommitN (c : CommitD) : Bool := okCommit c && decide (c.seals.length ≤ 64)
def okLight (l : LightD) : Bool := okHeader l.header && (okCommitN l.commit && (okSet l.set && okSet l.next))
def encLight (l : LightD) : List UInt8 := be64 5 ++ encHeader l.header ++ encCommit l.commit ++ encSet l.set ++ encSet l.next
/-- what an encoding answers -/
def Enc (ok : Bool) (l : List UInt8) (w : World) (e : Ending) (w' : World) : Prop := if ok then Gives l w e w' else Fails w e w'
theorem Enc.y {ok : Bool} {l : List UInt8} {w w' : World} {e : Ending} (h : ok = true) (hg : Gives l w e w') : Enc ok l w e w' := by unfold Enc; rw [if_pos h]; exact hg
theorem Enc.n {ok : Bool} {l : List UInt8} {w w' : World} {e : Ending} (h : ok = false) (hg : Fails w e w') : Enc ok l w e w' := by unfold Enc; rw [h]; exact hg

theorem encHeader_pos (d : HeaderD) : 0 < (encHeader d).length := by simp [encHeader, be64_length]; omega
theorem encHeader_len (d : HeaderD) (hv : d.wf) (h : okHeader d = true) : (encHeader d).length ≤ 1000 := by
  have := okHeader_len h
  simp [encHeader, be64_length, textL_length, hv.last, hv.set, hv.next, hv.data, hv.app]; omega
theorem encSet_pos (d : List ValD) : 0 < (encSet d).length := by rw [encSet_length]; omega
theorem encCommit_length (c : CommitD) (hc : c.wf) : (encCommit c).length = 64 + 24 * c.seals.length := by simp [encCommit, be64_length, encSeals_length, hc.block]; omega

/-- one cell, below block B0: it stays -/
theorem RowAt.box1 {w W : World} {x : Value} {T : TypeId} (h : w.alloc (.cells #[x] T) = W) : RowAt W w.heap.size 0 [x] := h ▸ RowAt_box w [x] T

set_option maxHeartbeats 400000 in
theorem EncodeHeaderBody_yes (d : HeaderD) (hv : d.wf) (h : okHeader d = true) (m B0 : Nat) (w : World) (hm : m < B0) (hA : RowAt w m 0 d.cells) :
    Writes 98 #[.pointer (some ⟨m, 0, none⟩)] B0 w (encHeader d) false := by
  intro w1 b hW hbel hB0
  have HA := Lib.hid (hA.below hbel hm)
  have S := Lib.hid (St.start hW); have Hv := Lib.hid hv; have Hok := Lib.hid h
  clear hA hv hW hbel h hm hB0
  go_enter Tryd.func98, Tryd.ntmps98
  go_wp2_with (refine wpList_load_part rfl 57 _ rfl m 0 rfl d.cells _ HA.out Tryd.underlying57 rfl (d.size Hv.out) ?_)
  refine (putHeader_yes S.out (by omega) d Hv.out Hok.out).mono ?_
  rintro e w2 ⟨rfl, k1, k2⟩
  go_wp2_with fail
  go_end0
  exact ⟨rfl, by simpa using k1.isW, k2⟩
set_option maxHeartbeats 400000 in
theorem EncodeHeaderBody_no (d : HeaderD) (hv : d.wf) (h : okHeader d = false) (m B0 : Nat) (w : World) (hm : m < B0) (hA : RowAt w m 0 d.cells) :
    Throws 98 #[.pointer (some ⟨m, 0, none⟩)] B0 w := by
  intro w1 b hW hbel hB0
  have HA := Lib.hid (hA.below hbel hm)
  have S := Lib.hid (St.start hW); have Hv := Lib.hid hv; have Hok := Lib.hid h
  clear hA hv hW hbel h hm hB0
  go_enter Tryd.func98, Tryd.ntmps98
  go_wp2_with (refine wpList_load_part rfl 57 _ rfl m 0 rfl d.cells _ HA.out Tryd.underlying57 rfl (d.size Hv.out) ?_)
  refine (putHeader_no S.out d Hv.out Hok.out).mono ?_
  rintro e w2 ⟨rfl, k2⟩
  exact ⟨rfl, rfl, k2⟩
set_option maxHeartbeats 400000 in
theorem EncodeHeader_any (d : HeaderD) (w : World) (hv : d.wf) : Calls Tryd.prog 33 #[.agg d.cells.toArray] w (Enc (okHeader d) (encHeader d) w) := by
  have hmf : ∀ (fn : Fn) (first cap : Array Value) (w : World), (Instr.makeFunc fn first cap).run Tryd.prog w = .ok (.func fn first cap) w := fun _ _ _ _ => rfl
  cases h : okHeader d with
  | true =>
    have C := Lib.hid (encode_yes 98 #[.pointer (some ⟨w.heap.size, 0, none⟩)] (encHeader d) (w.alloc (.cells d.cells.toArray 57)) (enters Tryd.func98 (by kernel_rfl) rfl)
      (EncodeHeaderBody_yes d hv h w.heap.size _ _ (by simp) (RowAt_box w d.cells _)) (encHeader_pos d) (by have := encHeader_len d hv h; omega))
    clear hv h
    go_enter Tryd.func33, Tryd.ntmps33
    go_wp2_with (go_at_call 46; refine C.out.mono ?_; rintro e w1 ⟨sl, rfl, k1, k2⟩)
    go_ret2
    obtain ⟨a, n, c, rfl⟩ := k1.shape
    exact Enc.y rfl ⟨a, n, c, rfl, k1.mono (by simp), (below_box w _).trans (k2.mono (by simp))⟩
  | false =>
    have C := Lib.hid (encode_no 98 #[.pointer (some ⟨w.heap.size, 0, none⟩)] (w.alloc (.cells d.cells.toArray 57)) (enters Tryd.func98 (by kernel_rfl) rfl)
      (EncodeHeaderBody_no d hv h w.heap.size _ _ (by simp) (RowAt_box w d.cells _)))
    clear hv h
    go_enter Tryd.func33, Tryd.ntmps33
    go_wp2_with (go_at_call 46; refine C.out.mono ?_; rintro e w1 ⟨rfl, k2⟩)
    go_ret2
    exact Enc.n rfl ⟨rfl, (below_box w _).trans (k2.mono (by simp))⟩

set_option maxHeartbeats 400000 in
theorem EncodeSetBody_yes (v : Value) (ds : List ValD) (hn : ds.length ≤ 64) (hw : ∀ d ∈ ds, d.wf) (m B0 : Nat) (w : World) (hm : m < B0) (hA : w.cell? ⟨m, 0, none⟩ = some v) (hr : RdS B0 w v ds.length 2 (setCells ds)) :
    Writes 99 #[.pointer (some ⟨m, 0, none⟩)] B0 w (encSet ds) false := by
  intro w1 b hW hbel hB0
  have c0 := (hbel.cell (p := ⟨m, 0, none⟩) hm).trans hA
  obtain ⟨ao, cp, hv⟩ := hr.shape
  have R := Lib.hid ((hr.below hbel (Nat.le_refl _)).mono hB0)
  subst hv
  have S := Lib.hid (St.start hW); have Hw := Lib.hid hw; have Hn := Lib.hid hn
  clear hA hW hbel hm hB0 hr hw hn
  go_enter Tryd.func99, Tryd.ntmps99
  go_wp2_with fail
  refine (putSet_yes S.out (by omega) _ ds R.out Hn.out Hw.out).mono ?_
  rintro e w2 ⟨rfl, k1, k2⟩
  clear c0
  go_wp2_with fail
  go_end0
  exact ⟨rfl, by simpa using k1.isW, k2⟩
set_option maxHeartbeats 400000 in
theorem EncodeSetBody_no (v : Value) (ds : List ValD) (hn : 64 < ds.length) (m B0 : Nat) (w : World) (hm : m < B0) (hA : w.cell? ⟨m, 0, none⟩ = some v) (hr : RdS B0 w v ds.length 2 (setCells ds)) :
    Throws 99 #[.pointer (some ⟨m, 0, none⟩)] B0 w := by
  intro w1 b hW hbel hB0
  have c0 := (hbel.cell (p := ⟨m, 0, none⟩) hm).trans hA
  obtain ⟨ao, cp, hv⟩ := hr.shape
  have R := Lib.hid ((hr.below hbel (Nat.le_refl _)).mono hB0)
  subst hv
  have S := Lib.hid (St.start hW); have Hn := Lib.hid hn
  clear hA hW hbel hm hB0 hr hn
  go_enter Tryd.func99, Tryd.ntmps99
  go_wp2_with fail
  refine (putSet_no S.out (by omega) _ ds R.out Hn.out).mono ?_
  rintro e w2 ⟨rfl, k2⟩
  exact ⟨rfl, rfl, k2⟩
set_option maxHeartbeats 400000 in
theorem EncodeSet_any (v : Value) (ds : List ValD) (w : World) (hw : ∀ d ∈ ds, d.wf) (hr : RdS w.heap.size w v ds.length 2 (setCells ds)) : Calls Tryd.prog 36 #[v] w (Enc (okSet ds) (encSet ds) w) := by
  have hmf : ∀ (fn : Fn) (first cap : Array Value) (w : World), (Instr.makeFunc fn first cap).run Tryd.prog w = .ok (.func fn first cap) w := fun _ _ _ _ => rfl
  obtain ⟨ao, cp, hv⟩ := hr.shape
  subst hv
  have hc : (w.alloc (.cells #[.slice ao ds.length cp] 69)).cell? ⟨w.heap.size, 0, none⟩ = some (.slice ao ds.length cp) := by rw [Lib.cell_of_heap (heap_alloc_new w _)]; rfl
  have hr2 := ((hr.below (below_box w (.cells #[.slice ao ds.length cp] 69)) (Nat.le_refl _)).mono (B' := (w.alloc (.cells #[.slice ao ds.length cp] 69)).heap.size) (by simp))
  by_cases h : ds.length ≤ 64
  · have e : okSet ds = true := by simpa [okSet] using h
    rw [e]
    have C := Lib.hid (encode_yes 99 #[.pointer (some ⟨w.heap.size, 0, none⟩)] (encSet ds) (w.alloc (.cells #[.slice ao ds.length cp] 69)) (enters Tryd.func99 (by kernel_rfl) rfl)
      (EncodeSetBody_yes _ ds h hw w.heap.size _ _ (by simp) hc hr2) (encSet_pos ds) (by rw [encSet_length]; omega))
    clear hw h hc hr hr2 e
    go_enter Tryd.func36, Tryd.ntmps36
    go_wp2_with (go_at_call 46; refine C.out.mono ?_; rintro e w1 ⟨sl, rfl, k1, k2⟩)
    go_ret2
    obtain ⟨a, n, c, rfl⟩ := k1.shape
    exact Enc.y rfl ⟨a, n, c, rfl, k1.mono (by simp), (below_box w _).trans (k2.mono (by simp))⟩
  · have e : okSet ds = false := by simpa [okSet] using h
    rw [e]
    have C := Lib.hid (encode_no 99 #[.pointer (some ⟨w.heap.size, 0, none⟩)] (w.alloc (.cells #[.slice ao ds.length cp] 69)) (enters Tryd.func99 (by kernel_rfl) rfl)
      (EncodeSetBody_no _ ds (by omega) w.heap.size _ _ (by simp) hc hr2))
    clear hw h hc hr hr2 e
    go_enter Tryd.func36, Tryd.ntmps36
    go_wp2_with (go_at_call 46; refine C.out.mono ?_; rintro e w1 ⟨rfl, k2⟩)
    go_ret2
    exact Enc.n rfl ⟨rfl, (below_box w _).trans (k2.mono (by simp))⟩

theorem LightD.parts {B : Nat} {w : World} {l : LightD} {cs : List Value} (h : l.rep B w cs) (hl : l.wf) : cs.take 163 = l.header.cells ∧ (∃ cc, l.commit.rep B w cc ∧ (cs.drop 163).take 35 = cc) ∧
    (∃ sv, RdS B w sv l.set.length 2 (setCells l.set) ∧ cs[198]? = some sv) ∧ (∃ nv, RdS B w nv l.next.length 2 (setCells l.next) ∧ cs[199]? = some nv) := by
  obtain ⟨cc, sv, nv, h1, h2, h3, rfl⟩ := h
  have e1 := l.header.cells_length hl.header
  have e2 := h1.length hl.commit
  refine ⟨?_, ⟨cc, h1, ?_⟩, ⟨sv, h2, ?_⟩, ⟨nv, h3, ?_⟩⟩
  · rw [List.append_assoc, List.take_left' e1]
  · rw [List.append_assoc, List.drop_left' e1, List.take_left' e2]
  · rw [List.getElem?_append_right (by simp [e1, e2])]; simp [e1, e2]
  · rw [List.getElem?_append_right (by simp [e1, e2])]; simp [e1, e2]

set_option maxHeartbeats 1000000 in
theorem EncodeLightBody_yes (l : LightD) (cs : List Value) (hl : l.wf) (h : okLight l = true) (m B0 : Nat) (w : World) (hm : m < B0) (hA : RowAt w m 0 cs) (hr : l.rep B0 w cs) :
    Writes 86 #[.pointer (some ⟨m, 0, none⟩)] B0 w (encLight l) false := by
  intro w1 b hW hbel hB0
  have hA1 := hA.below hbel hm
  obtain ⟨p1, ⟨cc, p2, p3⟩, ⟨sv, p4, p5⟩, ⟨nv, p6, p7⟩⟩ := LightD.parts ((hr.below hbel (Nat.le_refl _)).mono hB0) hl
  have hmb : m < b := by omega
  simp only [okLight, okCommitN, okSet, Bool.and_eq_true, decide_eq_true_eq] at h
  obtain ⟨o1, ⟨o2, o3⟩, o4, o5⟩ := h
  have A := Lib.hid hA1
  have P1 := Lib.hid p1; have P2 := Lib.hid p2; have P3 := Lib.hid p3; have P4 := Lib.hid p4; have P5 := Lib.hid p5; have P6 := Lib.hid p6; have P7 := Lib.hid p7
  have O1 := Lib.hid o1; have O2 := Lib.hid o2; have O3 := Lib.hid o3; have O4 := Lib.hid o4; have O5 := Lib.hid o5
  have S := Lib.hid (St.start hW); have Hl := Lib.hid hl
  clear hA hA1 hl hW hbel hm hB0 hr p1 p2 p3 p4 p5 p6 p7 o1 o2 o3 o4 o5
  go_enter Tryd.func86, Tryd.ntmps86
  go_wp2_with fail
  refine (Number_st S.out (by omega) _).mono ?_
  rintro e w2 ⟨rfl, k1, k2⟩
  replace S := Lib.hid k1; have K := Lib.hid k2.1; clear k1 k2
  have R := Lib.hid (show RowAt w2 m 0 l.header.cells by have := (A.out.below K.out hmb).part 0 163; rwa [List.drop_zero, P1.out] at this)
  go_wp2_with (refine wpList_load_part rfl 57 _ rfl m 0 rfl l.header.cells _ R.out Tryd.underlying57 rfl (l.header.size Hl.out.header) ?_)
  refine (putHeader_yes S.out (by omega) _ Hl.out.header O1.out).mono ?_
  rintro e w3 ⟨rfl, k1, k2⟩
  replace S := Lib.hid k1; replace K := Lib.hid (K.out.trans k2); clear k1 k2 R
  have R := Lib.hid (show RowAt w3 m 163 cc by have := (A.out.below K.out hmb).part 163 35; rwa [P3.out, Nat.zero_add] at this)
  go_wp2_with (refine wpList_load_part rfl 68 _ rfl m 163 rfl cc _ R.out Tryd.underlying68 rfl (by rw [P2.out.length Hl.out.commit]; exact sizeCommit) ?_)
  refine (putCommit_yes S.out (by omega) _ cc (P2.out.below K.out (Nat.le_refl _)) Hl.out.commit O2.out O3.out).mono ?_
  rintro e w4 ⟨rfl, k1, k2⟩
  replace S := Lib.hid k1; replace K := Lib.hid (K.out.trans k2); clear k1 k2 R
  obtain ⟨sa, sc, hsv⟩ := P4.out.shape
  have c0 := (A.out.below K.out hmb) 198 _ P5.out; rw [Nat.zero_add] at c0
  rw [hsv] at c0
  go_wp2_with fail
  refine (putSet_yes S.out (by omega) _ l.set (hsv ▸ P4.out.below K.out (Nat.le_refl _)) O4.out Hl.out.set).mono ?_
  rintro e w5 ⟨rfl, k1, k2⟩
  replace S := Lib.hid k1; replace K := Lib.hid (K.out.trans k2); clear k1 k2 c0 hsv
  obtain ⟨na, nc, hnv⟩ := P6.out.shape
  have c0 := (A.out.below K.out hmb) 199 _ P7.out; rw [Nat.zero_add] at c0
  rw [hnv] at c0
  go_wp2_with fail
  refine (putSet_yes S.out (by omega) _ l.next (hnv ▸ P6.out.below K.out (Nat.le_refl _)) O5.out Hl.out.next).mono ?_
  rintro e w6 ⟨rfl, k1, k2⟩
  replace S := Lib.hid k1; replace K := Lib.hid (K.out.trans k2); clear k1 k2 c0 hnv
  go_wp2_with fail
  go_end0
  exact ⟨rfl, by simpa [encLight] using S.out.isW, K.out⟩

theorem putCommit_no {b L : Nat} {w1 w : World} {bs : List UInt8} (h : St b w1 bs L w) (hL : L ≤ 100000000) (c : CommitD) (cs : List Value) (hr : c.rep b w cs) (hc : c.wf) (hok : okCommitN c = false) :
    Calls Tryd.prog 88 #[.pointer (some ⟨b, 0, none⟩), .agg cs.toArray] w fun e w' => e = .panicked wrongP ∧ Below b w w' := by
  cases ho : okCommit c with
  | false => exact putCommit_bad h c cs hr hc ho
  | true =>
    unfold okCommitN at hok
    rw [ho, Bool.true_and, decide_eq_false_iff_not] at hok
    exact putCommit_many h hL c cs hr hc ho (by omega)

set_option maxHeartbeats 1000000 in
theorem EncodeLightBody_no (l : LightD) (cs : List Value) (hl : l.wf) (h : okLight l = false) (m B0 : Nat) (w : World) (hm : m < B0) (hA : RowAt w m 0 cs) (hr : l.rep B0 w cs) :
    Throws 86 #[.pointer (some ⟨m, 0, none⟩)] B0 w := by
  intro w1 b hW hbel hB0
  have hA1 := hA.below hbel hm
  obtain ⟨p1, ⟨cc, p2, p3⟩, ⟨sv, p4, p5⟩, ⟨nv, p6, p7⟩⟩ := LightD.parts ((hr.below hbel (Nat.le_refl _)).mono hB0) hl
  have hmb : m < b := by omega
  have A := Lib.hid hA1
  have P1 := Lib.hid p1; have P2 := Lib.hid p2; have P3 := Lib.hid p3; have P4 := Lib.hid p4; have P5 := Lib.hid p5; have P6 := Lib.hid p6; have P7 := Lib.hid p7
  have Hok := Lib.hid h
  have S := Lib.hid (St.start hW); have Hl := Lib.hid hl
  clear hA hA1 hl hW hbel hm hB0 hr p1 p2 p3 p4 p5 p6 p7 h
  go_enter Tryd.func86, Tryd.ntmps86
  go_wp2_with fail
  refine (Number_st S.out (by omega) _).mono ?_
  rintro e w2 ⟨rfl, k1, k2⟩
  replace S := Lib.hid k1; have K := Lib.hid k2.1; clear k1 k2
  have R := Lib.hid (show RowAt w2 m 0 l.header.cells by have := (A.out.below K.out hmb).part 0 163; rwa [List.drop_zero, P1.out] at this)
  go_wp2_with (refine wpList_load_part rfl 57 _ rfl m 0 rfl l.header.cells _ R.out Tryd.underlying57 rfl (l.header.size Hl.out.header) ?_)
  cases o1 : okHeader l.header
  · refine (putHeader_no S.out _ Hl.out.header o1).mono ?_
    rintro e w3 ⟨rfl, k2⟩
    exact ⟨rfl, rfl, K.out.trans k2⟩
  refine (putHeader_yes S.out (by omega) _ Hl.out.header o1).mono ?_
  rintro e w3 ⟨rfl, k1, k2⟩
  have O1 := Lib.hid o1
  replace S := Lib.hid k1; replace K := Lib.hid (K.out.trans k2); clear k1 k2 R o1
  have R := Lib.hid (show RowAt w3 m 163 cc by have := (A.out.below K.out hmb).part 163 35; rwa [P3.out, Nat.zero_add] at this)
  go_wp2_with (refine wpList_load_part rfl 68 _ rfl m 163 rfl cc _ R.out Tryd.underlying68 rfl (by rw [P2.out.length Hl.out.commit]; exact sizeCommit) ?_)
  cases o2 : okCommitN l.commit
  · refine (putCommit_no S.out (by omega) _ cc (P2.out.below K.out (Nat.le_refl _)) Hl.out.commit o2).mono ?_
    rintro e w4 ⟨rfl, k2⟩
    exact ⟨rfl, rfl, K.out.trans k2⟩
  have o23 := o2
  unfold okCommitN at o23
  simp only [Bool.and_eq_true, decide_eq_true_eq] at o23
  refine (putCommit_yes S.out (by omega) _ cc (P2.out.below K.out (Nat.le_refl _)) Hl.out.commit o23.1 o23.2).mono ?_
  rintro e w4 ⟨rfl, k1, k2⟩
  have O2 := Lib.hid o2
  replace S := Lib.hid k1; replace K := Lib.hid (K.out.trans k2); clear k1 k2 R o2 o23
  obtain ⟨sa, sc, hsv⟩ := P4.out.shape
  have c0 := (A.out.below K.out hmb) 198 _ P5.out; rw [Nat.zero_add] at c0
  rw [hsv] at c0
  have Hsv := Lib.hid hsv; clear hsv
  go_wp2_with fail
  by_cases o4 : l.set.length ≤ 64
  · refine (putSet_yes S.out (by omega) _ l.set (Hsv.out ▸ P4.out.below K.out (Nat.le_refl _)) o4 Hl.out.set).mono ?_
    rintro e w5 ⟨rfl, k1, k2⟩
    replace S := Lib.hid k1; replace K := Lib.hid (K.out.trans k2); clear k1 k2 c0
    obtain ⟨na, nc, hnv⟩ := P6.out.shape
    have c0 := (A.out.below K.out hmb) 199 _ P7.out; rw [Nat.zero_add] at c0
    rw [hnv] at c0
    have Hnv := Lib.hid hnv; clear hnv
    have o5 : 64 < l.next.length := by
      have h := Hok.out
      unfold okLight at h
      rw [O1.out, O2.out, show okSet l.set = true by simpa [okSet] using o4] at h
      simp only [Bool.true_and, okSet, decide_eq_false_iff_not] at h
      omega
    have O4 := Lib.hid o4; clear o4
    go_wp2_with fail
    refine (putSet_no S.out (by omega) _ l.next (Hnv.out ▸ P6.out.below K.out (Nat.le_refl _)) o5).mono ?_
    rintro e w6 ⟨rfl, k2⟩
    exact ⟨rfl, rfl, K.out.trans k2⟩
  · refine (putSet_no S.out (by omega) _ l.set (Hsv.out ▸ P4.out.below K.out (Nat.le_refl _)) (by omega)).mono ?_
    rintro e w5 ⟨rfl, k2⟩
    exact ⟨rfl, rfl, K.out.trans k2⟩

theorem okLight_open {l : LightD} (h : okLight l = true) : okHeader l.header = true ∧ okCommit l.commit = true ∧ l.commit.seals.length ≤ 64 ∧ l.set.length ≤ 64 ∧ l.next.length ≤ 64 := by
  simp only [okLight, okCommitN, okSet, Bool.and_eq_true, decide_eq_true_eq] at h
  exact ⟨h.1, h.2.1.1, h.2.1.2, h.2.2.1, h.2.2.2⟩
theorem encLight_pos (l : LightD) : 0 < (encLight l).length := by simp [encLight, be64_length]; omega
theorem encLight_len (l : LightD) (hl : l.wf) (h : okLight l = true) : (encLight l).length ≤ 10000 := by
  obtain ⟨h1, h2, h3, h4, h5⟩ := okLight_open h
  have := encHeader_len _ hl.header h1
  have := encCommit_length _ hl.commit
  have := encSet_length l.set
  have := encSet_length l.next
  simp only [encLight, List.length_append, be64_length]; omega

set_option maxHeartbeats 400000 in
theorem EncodeLight_any (l : LightD) (cs : List Value) (w : World) (hl : l.wf) (hr : l.rep w.heap.size w cs) : Calls Tryd.prog 29 #[.agg cs.toArray] w (Enc (okLight l) (encLight l) w) := by
  have hmf : ∀ (fn : Fn) (first cap : Array Value) (w : World), (Instr.makeFunc fn first cap).run Tryd.prog w = .ok (.func fn first cap) w := fun _ _ _ _ => rfl
  have hr2 := (hr.below (below_box w (.cells cs.toArray 71)) (Nat.le_refl _)).mono (B' := (w.alloc (.cells cs.toArray 71)).heap.size) (by simp)
  cases h : okLight l with
  | true =>
    have C := Lib.hid (encode_yes 86 #[.pointer (some ⟨w.heap.size, 0, none⟩)] (encLight l) (w.alloc (.cells cs.toArray 71)) (enters Tryd.func86 (by kernel_rfl) rfl)
      (EncodeLightBody_yes l cs hl h w.heap.size _ _ (by simp) (RowAt_box w cs _) hr2) (encLight_pos l) (by have := encLight_len l hl h; omega))
    clear hl h hr hr2
    go_enter Tryd.func29, Tryd.ntmps29
    go_wp2_with (go_at_call 46; refine C.out.mono ?_; rintro e w1 ⟨sl, rfl, k1, k2⟩)
    go_ret2
    obtain ⟨a, n, c, rfl⟩ := k1.shape
    exact Enc.y rfl ⟨a, n, c, rfl, k1.mono (by simp), (below_box w _).trans (k2.mono (by simp))⟩
  | false =>
    have C := Lib.hid (encode_no 86 #[.pointer (some ⟨w.heap.size, 0, none⟩)] (w.alloc (.cells cs.toArray 71)) (enters Tryd.func86 (by kernel_rfl) rfl)
      (EncodeLightBody_no l cs hl h w.heap.size _ _ (by simp) (RowAt_box w cs _) hr2))
    clear hl h hr hr2
    go_enter Tryd.func29, Tryd.ntmps29
    go_wp2_with (go_at_call 46; refine C.out.mono ?_; rintro e w1 ⟨rfl, k2⟩)
    go_ret2
    exact Enc.n rfl ⟨rfl, (below_box w _).trans (k2.mono (by simp))⟩

set_option maxHeartbeats 400000 in
theorem EncodeCommitBody_yes (c : CommitD) (cs : List Value) (hc : c.wf) (h : okCommitN c = true) (m B0 : Nat) (w : World) (hm : m < B0) (hA : RowAt w m 0 cs) (hr : c.rep B0 w cs) :
    Writes 102 #[.pointer (some ⟨m, 0, none⟩)] B0 w (encCommit c) false := by
  intro w1 b hW hbel hB0
  have A := Lib.hid (hA.below hbel hm)
  have R := Lib.hid ((hr.below hbel (Nat.le_refl _)).mono hB0)
  simp only [okCommitN, Bool.and_eq_true, decide_eq_true_eq] at h
  obtain ⟨o1, o2⟩ := h
  have S := Lib.hid (St.start hW); have Hc := Lib.hid hc; have O1 := Lib.hid o1; have O2 := Lib.hid o2
  clear hA hc hW hbel o1 o2 hm hB0 hr
  go_enter Tryd.func102, Tryd.ntmps102
  go_wp2_with (refine wpList_load_part rfl 68 _ rfl m 0 rfl cs _ A.out Tryd.underlying68 rfl (by rw [R.out.length Hc.out]; exact sizeCommit) ?_)
  refine (putCommit_yes S.out (by omega) c cs R.out Hc.out O1.out O2.out).mono ?_
  rintro e w2 ⟨rfl, k1, k2⟩
  go_wp2_with fail
  go_end0
  exact ⟨rfl, by simpa using k1.isW, k2⟩
set_option maxHeartbeats 400000 in
theorem EncodeCommitBody_no (c : CommitD) (cs : List Value) (hc : c.wf) (h : okCommitN c = false) (m B0 : Nat) (w : World) (hm : m < B0) (hA : RowAt w m 0 cs) (hr : c.rep B0 w cs) :
    Throws 102 #[.pointer (some ⟨m, 0, none⟩)] B0 w := by
  intro w1 b hW hbel hB0
  have A := Lib.hid (hA.below hbel hm)
  have R := Lib.hid ((hr.below hbel (Nat.le_refl _)).mono hB0)
  have S := Lib.hid (St.start hW); have Hc := Lib.hid hc; have Hok := Lib.hid h
  clear hA hc hW hbel h hm hB0 hr
  go_enter Tryd.func102, Tryd.ntmps102
  go_wp2_with (refine wpList_load_part rfl 68 _ rfl m 0 rfl cs _ A.out Tryd.underlying68 rfl (by rw [R.out.length Hc.out]; exact sizeCommit) ?_)
  refine (putCommit_no S.out (by omega) c cs R.out Hc.out Hok.out).mono ?_
  rintro e w2 ⟨rfl, k2⟩
  exact ⟨rfl, rfl, k2⟩
set_option maxHeartbeats 400000 in
theorem EncodeCommit_any (c : CommitD) (cs : List Value) (w : World) (hc : c.wf) (hr : c.rep w.heap.size w cs) : Calls Tryd.prog 42 #[.agg cs.toArray] w (Enc (okCommitN c) (encCommit c) w) := by
  have hmf : ∀ (fn : Fn) (first cap : Array Value) (w : World), (Instr.makeFunc fn first cap).run Tryd.prog w = .ok (.func fn first cap) w := fun _ _ _ _ => rfl
  have hr2 := (hr.below (below_box w (.cells cs.toArray 68)) (Nat.le_refl _)).mono (B' := (w.alloc (.cells cs.toArray 68)).heap.size) (by simp)
  cases h : okCommitN c with
  | true =>
    have C := Lib.hid (encode_yes 102 #[.pointer (some ⟨w.heap.size, 0, none⟩)] (encCommit c) (w.alloc (.cells cs.toArray 68)) (enters Tryd.func102 (by kernel_rfl) rfl)
      (EncodeCommitBody_yes c cs hc h w.heap.size _ _ (by simp) (RowAt_box w cs _) hr2) (by rw [encCommit_length c hc]; omega) (by rw [encCommit_length c hc]; simp only [okCommitN, Bool.and_eq_true, decide_eq_true_eq] at h; omega))
    clear hc h hr hr2
    go_enter Tryd.func42, Tryd.ntmps42
    go_wp2_with (go_at_call 46; refine C.out.mono ?_; rintro e w1 ⟨sl, rfl, k1, k2⟩)
    go_ret2
    obtain ⟨a, n, c, rfl⟩ := k1.shape
    exact Enc.y rfl ⟨a, n, c, rfl, k1.mono (by simp), (below_box w _).trans (k2.mono (by simp))⟩
  | false =>
    have C := Lib.hid (encode_no 102 #[.pointer (some ⟨w.heap.size, 0, none⟩)] (w.alloc (.cells cs.toArray 68)) (enters Tryd.func102 (by kernel_rfl) rfl)
      (EncodeCommitBody_no c cs hc h w.heap.size _ _ (by simp) (RowAt_box w cs _) hr2))
    clear hc h hr hr2
    go_enter Tryd.func42, Tryd.ntmps42
    go_wp2_with (go_at_call 46; refine C.out.mono ?_; rintro e w1 ⟨rfl, k2⟩)
    go_ret2
    exact Enc.n rfl ⟨rfl, (below_box w _).trans (k2.mono (by simp))⟩

end Go.Proofs.YtaffpgafbjhahaaDoor
