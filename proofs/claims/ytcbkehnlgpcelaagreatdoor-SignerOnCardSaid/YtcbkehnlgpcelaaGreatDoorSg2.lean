/- Walks: a log's calls. -/
import Derived.Test.YtcbkehnlgpcelaaGreatDoorSg1
namespace Go.Proofs.YtcbkehnlgpcelaaGreatDoor
open Go.RowKit
set_option maxRecDepth 100000

theorem bs_inf : (Tryz.prog.info? 27).map (fun i => (i.zero, i.size, i.bytes)) = some (some (.slice none 0 0), 1, 24) := by kernel_rfl
theorem bs_inf2 : (Tryz.prog.info? 27).map (fun i => (i.zero, i.size)) = some (some (.slice none 0 0), 1) := by kernel_rfl
theorem SRow.rdB {w : World} {v : Value} {n : Nat} {l : List UInt8} (h : SRow w 5 1 v n (Lib.byteCells l)) : RdB w v l := by
  obtain rfl : n = l.length := by have := h.1; rw [Lib.byteCells_length] at this; omega
  rcases id h.2 with ⟨hv, hn⟩ | ⟨g, o, cap, cur, hv, hg, hnc, hcm, hcs, htake⟩
  · have hl : l = [] := List.length_eq_zero_iff.1 hn
    subst hl
    exact ⟨none, 0, hv, Nat.le_refl _, Nat.zero_le _, .inl ⟨rfl, rfl, rfl⟩⟩
  · subst hv
    exact ⟨some ⟨g, o, none⟩, cap, rfl, hnc, hcm, .inr ⟨g, o, rfl, hg.lt, h.row⟩⟩
theorem nil_yes (w : World) : (binOp .eql 27 (.slice none 0 0) (.slice none 0 0)).run Tryz.prog w = .ok (.bool true) w := by kernel_rfl
theorem nil_no (a : Addr) (n c : Nat) (w : World) : (binOp .eql 27 (.slice (some a) n c) (.slice none 0 0)).run Tryz.prog w = .ok (.bool false) w := by kernel_rfl
set_option maxHeartbeats 4000000 in
theorem bClone_ok {w0 : World} {v : Value} {l : List UInt8} (hv : SRow w0 5 1 v l.length (Lib.byteCells l)) (hl : l.length ≤ 1048576) :
    Calls Tryz.prog 55 #[v] w0 fun e w' => ∃ v', e = .returned v' ∧ SRow w' 5 1 v' l.length (Lib.byteCells l) ∧ w0.grownBy w' none := by
  rcases id hv.2 with ⟨he, hn⟩ | ⟨g, o, cap, cur, he, hg, hnc, hcm, hcs, htake⟩
  · have hl0 : l = [] := List.length_eq_zero_iff.1 hn
    subst hl0; subst he
    clear hv hl hn
    have hq := nil_yes
    go_enter Tryz.func55, Tryz.ntmps55
    go_wp2_with fail
    go_ret
    exact ⟨_, rfl, SRow.nil _ _ _, World.grownBy.refl _ _⟩
  · subst he
    have HV := Lib.hid hv; have HL := Lib.hid hl
    have O := OwF.start (fun _ => False) w0
    obtain ⟨n, hn⟩ : ∃ n, l.length = n := ⟨_, rfl⟩
    rw [hn] at HV HL hnc ⊢
    clear hv hl hg hcs htake
    have hq := nil_no ⟨g, o, none⟩ n cap
    go_enter Tryz.func55, Tryz.ntmps55
    go_wp2_with (first | ((with_reducible refine @wpList_at _ _ _ _ _ _ _ (.buildSlice 27 0 #[]) rfl ?_); refine @wpList_of_slice0 _ _ _ _ _ _ _ _ _ _ 27 rfl 5 _ 1 Tryz.underlying27 byte_inf2 O rfl ?_; clear O; intro b3 w O) | ((with_reducible refine @wpList_at _ _ _ _ _ _ _ (.call { callee := .builtin .append, args := #[.tmp 5, .tmp 6], argTypes := #[27, 27] }) rfl ?_); refine wpList_wanted rfl (fun K hK => ?_); refine wp_append_srow _ _ _ 27 27 rfl 5 (.int .u8 0) 1 1 Tryz.underlying27 byte_inf rfl (.slice (some ⟨b3, 0, none⟩) 0 0) 0 [] rfl ⟨rfl, .inr ⟨b3, 0, 0, [], rfl, O.at_ 0 rfl, Nat.le_refl _, Nat.zero_le _, by simp, rfl⟩⟩ _ n _ rfl ((HV.out.grown (O.tch.grown (fun _ h => h.elim))).src Tryz.underlying27 (oneCell_bytes _)) (by have := HL.out; unfold maxLen; omega) (by have := HL.out; omega) ?_; intro v9 w9 hS g9 o9; rw [Nat.zero_add, List.nil_append] at hS; have HS9 := Lib.hid hS; have HG9 := Lib.hid g9; clear hS g9 o9; refine hK _ _ ?_))
    go_ret
    exact ⟨_, rfl, HS9.out, grown_new (O.tch.grown (fun _ h => h.elim)) HG9.out ((O.lie 0 rfl).resolve_right id)⟩
/-- a frame -/
def hd2 (n : Nat) : List UInt8 := [UInt8.ofNat (n / 256), UInt8.ofNat (n % 256)]
def frameL (l : List UInt8) : List UInt8 := hd2 l.length ++ (blake (4 :: (hd2 l.length ++ l))).take 4 ++ l
theorem frameL_len (l : List UInt8) : (frameL l).length = l.length + 6 := by
  unfold frameL hd2
  rw [List.length_append, List.length_append, List.length_take, blake_len]
  simp; omega
section
variable {P : Program} {o : Oper} {a : Act} {w0 w : World} {K : Act → World → Prop} {Q : Exit → Act → World → Prop} {F : Nat → Prop} {L : List (Nat × List Value × TypeId)}
theorem wpList_of_slice2 {ops : Array Oper} {rest : List Oper} (t : TypeId) (x y : Operand) (ho : o.op = .buildSlice t 2 #[(0, x), (1, y)]) (u v : Value) (hx : a.eval x = u) (hy : a.eval y = v) (hu : u.cells = #[u]) (hv : v.cells = #[v]) (e : TypeId) (z : Value) (ht : P.underlying t = some (.slice e)) (hi : (P.info? e).map (fun i => (i.zero, i.size)) = some (some z, 1))
    (O : OwF F w0 w L) (hgd : Region.wanted o (yielded ops a.tmps) = true) (h : ∀ b w2, OwF F w0 w2 ((b, [u, v], e) :: L) → wpList P ops Q rest (a.put o.dst (.slice (some ⟨b, 0, none⟩) 2 2)) w2) : wpList P ops Q (o :: rest) a w := by
  refine wpList_wanted hgd fun K hK => ?_
  cases hq : P.info? e with
  | none => simp [hq] at hi
  | some i =>
    have hi' : i.zero = some z ∧ i.size = 1 := by simpa [hq] using hi
    have hr := run_buildSlice_all (P := P) w t e i z 1 ht hq hi'.1 hi'.2 [u, v] (by simp [hu, hv]) (by simp)
    have hr2 : (Instr.buildSlice t 2 #[(0, u), (1, v)]).run P w = .ok (.slice (some ⟨w.heap.size, 0, none⟩) 2 2) (w.alloc (.cells (flatCells [u, v]).toArray e)) := hr
    have hf : flatCells [u, v] = [u, v] := by simp [flatCells, hu, hv]
    rw [hf] at hr2
    unfold Oper.wp execOp
    simp only [ho, List.map_toArray, List.map_cons, List.map_nil, hx, hy, Sem.run_bind, hr2, Result.andThen_ok]
    exact hK _ _ (h _ _ (O.new (Blk.new w [u, v] e) (World.grownBy_alloc w _ none)))
end
theorem take_cells {X : List UInt8} {k j : Nat} {u : Value} (h : (Lib.byteCells (X.take k))[j]? = some u) : (Lib.byteCells X)[j]? = some u := by
  unfold Lib.byteCells at h ⊢
  rw [List.map_take, List.getElem?_take] at h
  split at h
  · exact h
  · cases h
theorem rdL2 {w : World} {b : Nat} {u1 u2 : Value} {l1 l2 : List UInt8} {T : TypeId} (hb : Blk w b [u1, u2] T) (h1 : RdB w u1 l1) (h2 : RdB w u2 l2) : RdL w (.slice (some ⟨b, 0, none⟩) 2 2) [l1, l2] := by
  refine ⟨some ⟨b, 0, none⟩, 2, [u1, u2], rfl, Nat.le_refl _, by unfold maxLen; decide, rfl, fun i l hl => ?_, .inr ⟨b, 0, rfl, hb.lt, hb.row⟩⟩
  match i, hl with
  | 0, hl => cases hl; exact ⟨_, rfl, h1⟩
  | 1, hl => cases hl; exact ⟨_, rfl, h2⟩
set_option maxHeartbeats 4000000 in
theorem frame_ok {w0 : World} {v : Value} {l : List UInt8} (hv : SRow w0 5 1 v l.length (Lib.byteCells l)) (hl : l.length ≤ 4096) (hR : RowAt w0 3 0 (wCells rootsL)) :
    Calls Tryz.prog 107 #[v] w0 fun e w' => ∃ v', e = .returned v' ∧ SRow w' 5 1 v' (frameL l).length (Lib.byteCells (frameL l)) ∧ w0.grownBy w' none := by
  obtain ⟨av, cv, rfl, _⟩ := hv.shape
  have HV := Lib.hid hv; have HL := Lib.hid hl; have HR := Lib.hid hR
  have O := OwF.start (fun _ => False) w0
  clear hv hl hR
  obtain ⟨n, hn⟩ : ∃ n, l.length = n := ⟨_, rfl⟩
  have HN := Lib.hid hn
  rw [hn] at HV HL
  rw [hn]
  clear hn
  go_enter Tryz.func107, Tryz.ntmps107
  go_wp2_with (first | ((with_reducible refine @wpList_at _ _ _ _ _ _ _ (.buildSlice 27 2 #[(0, .tmp 8), (1, .tmp 11)]) rfl ?_); refine @wpList_of_slice2 _ _ _ _ _ _ _ _ _ _ 27 _ _ rfl (.int .u8 ((n : Int) / 256 % 256)) (.int .u8 ((n : Int) % 256)) rfl rfl rfl rfl 5 _ Tryz.underlying27 byte_inf2 O rfl ?_; clear O; intro b3 w O) | ((with_reducible refine @wpList_at _ _ _ _ _ _ _ (.buildSlice 61 2 #[(0, .tmp 13), (1, .tmp 14)]) rfl ?_); refine @wpList_of_slice2 _ _ _ _ _ _ _ _ _ _ 61 _ _ rfl (.slice (some ⟨b3, 0, none⟩) 2 2) (.slice av n cv) rfl rfl rfl rfl 27 _ Tryz.underlying61 bs_inf2 O rfl ?_; clear O; intro b5 w O))
  have hd : ([.int .u8 ((n : Int) / 256 % 256), .int .u8 ((n : Int) % 256)] : List Value) = Lib.byteCells (hd2 n) := by
    unfold hd2 Lib.byteCells
    simp
  rw [hd] at O
  clear hd
  have r3 : SRow w 5 1 (.slice (some ⟨b3, 0, none⟩) 2 2) 2 (Lib.byteCells (hd2 n)) := ⟨rfl, .inr ⟨b3, 0, 2, _, rfl, O.at_ 1 rfl, Nat.le_refl _, by unfold maxLen; decide, Nat.le_refl _, rfl⟩⟩
  have C := Join_ok 4 [hd2 n, l] _ w (rdL2 (O.at_ 0 rfl) r3.rdB (HV.out.grown (O.tch.grown (fun _ h => h.elim))).rdB) (by have := HL.out; have := HN.out; simp [hd2]; omega) (HR.out.grown (O.tch.grown (fun _ h => h.elim)) (by simp))
  rw [show ([hd2 n, l] : List (List UInt8)).flatten = hd2 n ++ l by simp] at C
  have HX := Lib.hid (blake_len (4 :: (hd2 n ++ l)))
  have HF := Lib.hid (show frameL l = hd2 n ++ (blake (4 :: (hd2 n ++ l))).take 4 ++ l by unfold frameL; rw [HN.out])
  obtain ⟨X, hX⟩ : ∃ X, blake (4 :: (hd2 n ++ l)) = X := ⟨_, rfl⟩
  rw [hX] at C HX HF
  have HR3 := Lib.hid r3
  clear hX r3
  refine C.mono ?_
  rintro e w5 ⟨rfl, g⟩
  replace O := O.call g
  replace HR3 := Lib.hid (HR3.out.grown g)
  clear C g
  go_wp2_with (first | ((with_reducible refine @wpList_at _ _ _ _ _ _ _ (.alloc 26) rfl ?_); refine @wpList_of_alloc _ _ _ _ _ _ _ _ _ _ 26 rfl ZH ZH_info O rfl ?_; clear O; intro b4 w O) | ((with_reducible refine @wpList_at _ _ _ _ _ _ _ (.store 26 (.tmp 4) (.tmp 16)) rfl ?_); refine @wpList_of_store _ _ _ _ _ _ _ _ _ _ 26 (.tmp 4) (.tmp 16) rfl O 0 b4 rfl (Lib.byteCells X) ZH _ rfl rfl (by rw [Lib.byteCells_length, HX.out]; rfl) (oneCell_bytes _) (sizeH _ (by rw [Lib.byteCells_length, HX.out])) rfl ?_; clear O; intro w O; simp only [List.set_cons_zero] at O) | ((with_reducible refine @wpList_at _ _ _ _ _ _ _ (.call { callee := .builtin .append, args := #[.tmp 17, .tmp 18], argTypes := #[27, 27] }) rfl ?_); refine wpList_wanted rfl (fun K hK => ?_); refine wp_append_full _ _ 27 27 rfl 5 (.int .u8 0) 1 1 Tryz.underlying27 byte_inf rfl (some ⟨b3, 0, none⟩) 2 (Lib.byteCells (hd2 n)) rfl ⟨rfl, .inr ⟨b3, 0, 2, _, rfl, O.at_ 2 rfl, Nat.le_refl _, by unfold maxLen; decide, Nat.le_refl _, rfl⟩⟩ (.slice (some ⟨b4, 0, none⟩) 4 32) 4 (Lib.byteCells (X.take 4)) rfl (Src.ofSlice _ Tryz.underlying27 _ 4 32 _ (by rw [Lib.byteCells_length, List.length_take, HX.out]; rfl) (fun j u hj => by rw [addr_add]; exact (O.at_ 0 rfl).row j u (take_cells hj)) (oneCell_bytes _)) (by decide) (by unfold maxLen; decide) (by decide) ?_; intro v9 w9 hS g9 o9; have HW9 := Lib.hid O.tch.size; replace O := O.call g9; have HS9 := Lib.hid hS; have HO9 := Lib.hid o9; obtain ⟨a9, c9, hv9, _⟩ := hS.shape; subst hv9; clear hS g9 o9; refine hK _ _ ?_) | ((with_reducible refine @wpList_at _ _ _ _ _ _ _ (.call { callee := .builtin .append, args := #[.tmp 19, .tmp 20], argTypes := #[27, 27] }) rfl ?_); refine wpList_wanted rfl (fun K hK => ?_); refine wp_append_srow _ _ _ 27 27 rfl 5 (.int .u8 0) 1 1 Tryz.underlying27 byte_inf rfl (.slice a9 (2 + 4) c9) (2 + 4) (Lib.byteCells (hd2 n) ++ Lib.byteCells (X.take 4)) rfl HS9.out _ n _ rfl ((HV.out.grown (O.tch.grown (fun _ h => h.elim))).src Tryz.underlying27 (oneCell_bytes _)) (by have := HL.out; have := HN.out; unfold maxLen; omega) (by have := HL.out; have := HN.out; omega) ?_; intro v8 w8 hS g8 o8; have HS8 := Lib.hid hS; have HG8 := Lib.hid g8; clear hS g8 o8; refine hK _ _ ?_))
  go_ret
  refine ⟨_, rfl, ?_, grown_new (O.tch.grown (fun _ h => h.elim)) (HO9.out ▸ HG8.out) HW9.out⟩
  have h8 := HS8.out
  have hb : Lib.byteCells (frameL l) = Lib.byteCells (hd2 n) ++ Lib.byteCells (X.take 4) ++ Lib.byteCells l := by rw [HF.out]; unfold Lib.byteCells; rw [List.map_append, List.map_append]
  rw [hb, frameL_len, HN.out, show n + 6 = 2 + 4 + n by omega]
  exact h8

end Go.Proofs.YtcbkehnlgpcelaaGreatDoor
