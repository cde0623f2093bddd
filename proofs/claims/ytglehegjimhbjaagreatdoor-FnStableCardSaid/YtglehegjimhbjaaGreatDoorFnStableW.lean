/- FnStable: the walk. -/
import Derived.Test.YtglehegjimhbjaaGreatDoorDrawH
import Derived.Test.YtglehegjimhbjaaGreatDoorPkE
import Derived.Test.YtglehegjimhbjaaGreatDoorColQ
import Derived.Test.YtglehegjimhbjaaGreatDoorInRel
import Derived.Test.YtglehegjimhbjaaGreatDoorGs
import Derived.Test.YtglehegjimhbjaaGreatDoorRow
import Derived.Deep.QuietTactic
import Derived.BigQuiet
namespace Go.Proofs.YtglehegjimhbjaaGreatDoor.fnStableW
set_option linter.unusedVariables false
set_option linter.unusedSimpArgs false
open Go.ChangeShapes Go.WideShapes Go.ChangeAt Go.RowKit
open Go.Proofs.YtglehegjimhbjaaGreatDoor.flow Go.Proofs.YtglehegjimhbjaaGreatDoor.lib Go.Proofs.YtglehegjimhbjaaGreatDoor.st Go.Proofs.YtglehegjimhbjaaGreatDoor.draw Go.Proofs.YtglehegjimhbjaaGreatDoor.base Go.Proofs.YtglehegjimhbjaaGreatDoor.chain Go.Proofs.YtglehegjimhbjaaGreatDoor.gs Go.Proofs.YtglehegjimhbjaaGreatDoor.inrel Go.Proofs.YtglehegjimhbjaaGreatDoor.col Go.Proofs.YtglehegjimhbjaaGreatDoor.colp Go.Proofs.YtglehegjimhbjaaGreatDoor.specd Go.Proofs.YtglehegjimhbjaaGreatDoor.coli Go.Proofs.YtglehegjimhbjaaGreatDoor.colj Go.Proofs.YtglehegjimhbjaaGreatDoor.colq Go.Proofs.YtglehegjimhbjaaGreatDoor.less
/-- bytes that came in may be drawn from -/
theorem byt_of_row {w : World} {a : Option Addr} {n c : Nat} {zs : List Int} (h : row.IsRow .u8 w a n c zs) : Byt w w.heap.size a n ∧ n ≤ c ∧ c ≤ 9223372036854775807 := by
  rcases h with ⟨rfl, rfl, rfl, rfl⟩ | ⟨x, rfl, hl, hm, hz, hcell, hwf⟩
  · exact ⟨.inl rfl, Nat.le_refl _, by omega⟩
  · refine ⟨?_, hl, hm⟩
    by_cases h0 : n = 0
    · exact .inl h0
    · obtain ⟨b, off, spot⟩ := x
      have hc := hcell 0 (by omega)
      have hspot : spot = none := by simpa [Addr.add] using World.cell?_spot hc
      subst hspot
      have hlt := World.block_lt_of_cell? w _ hc
      refine .inr ⟨b, off, rfl, by simpa [Addr.add] using hlt, fun i hi => ?_⟩
      have hci := hcell i (by omega)
      have hw := hwf (zs.getD i 0) (by rw [List.getD_eq_getElem?_getD, List.getElem?_eq_getElem (by omega)]; exact List.getElem_mem _)
      have hb : 0 ≤ zs.getD i 0 ∧ zs.getD i 0 ≤ 255 := by
        generalize zs.getD i 0 = z at hw ⊢
        simp only [Lit.wf, IntKind.min, IntKind.max, IntKind.signed, IntKind.bits, Bool.and_eq_true, decide_eq_true_eq] at hw
        simp at hw
        omega
      refine ⟨(zs.getD i 0).toNat, by omega, ?_⟩
      rw [show (⟨b, off, none⟩ : Addr).add i = ⟨b, off + i, none⟩ from by simp only [Addr.add]; split <;> simp [*]] at hci
      rw [hci, show (((zs.getD i 0).toNat : Nat) : Int) = zs.getD i 0 from by omega]
theorem ofDrew {w w' : World} (h : Below w.drew.heap.size w.drew w') : Below w.heap.size w w' := by
  cases h; constructor <;> assumption
/-- the spot of a list's members -/
theorem spot {w : World} {ao : Option Addr} {nl cl : Nat} {l : List Int} (h : Reads w (.slice ao nl cl) l) (hl : nl = l.length) (h1 : 1 ≤ nl) :
    ∃ b off, ao = some ⟨b, off, none⟩ ∧ ∀ i, i < nl → w.cell? ⟨b, off + i, none⟩ = some (.int .i64 (l.getD i 0)) := by
  obtain ⟨ao', c', hv', hc', _⟩ := h
  simp only [Value.slice.injEq] at hv'
  rcases hc' with h | ⟨b, off, he, hc⟩
  · rw [h] at hl; simp at hl; omega
  · exact ⟨b, off, hv'.1.trans he, fun i hi => hc i (by omega)⟩

theorem stab_prop (a : St) (h : 0 < total [a]) (h8 : total [a] ≤ 8) : stab a < 8 ∧ most (cols [a] (stab a)) = most (cols [a] (stab a + 1)) ∧ ∀ j, j < stab a → most (cols [a] j) ≠ most (cols [a] (j + 1)) := by
  unfold stab
  cases e : (List.range 8).find? (fun k => decide (most (cols [a] k) = most (cols [a] (k + 1)))) with
  | none =>
    have hn := List.find?_eq_none.1 e
    have hne : ∀ j, j < 7 → most (cols [a] j) ≠ most (cols [a] (j + 1)) := fun j hj he => hn j (List.mem_range.2 (by omega)) (decide_eq_true he)
    exact ⟨by simp, stable_at h h8 hne, hne⟩
  | some k =>
    obtain ⟨h1, h2, h3⟩ := List.find?_range_eq_some.1 e
    exact ⟨List.mem_range.1 h2, of_decide_eq_true h1, fun j hj he => by have := h3 j hj; simp [he] at this⟩
/-- what the law asks, at a valid structure -/
structure Fact (N k : Nat) (s r : ByteArray) : Prop where
  L : stableL N s r = cols [⟨N, s, r⟩] k
  n : stableN N s r = k
  kN : k < N
  k8 : k < 8
  later : colsR N s r 8 = cols [⟨N, s, r⟩] k
  now : colsR N s r k = cols [⟨N, s, r⟩] k
  less : ∀ j, k = j + 1 → (countsR N s r j).length < (countsR N s r k).length
theorem fact {N : Nat} {s r : ByteArray} (hv : validB N s r = true) (h1 : 1 ≤ N) (h8 : N ≤ 8) : ∃ k, Fact N k s r := by
  have ht : total [(⟨N, s, r⟩ : St)] = N := by simp [total]
  obtain ⟨p1, p2, p3⟩ := stab_prop ⟨N, s, r⟩ (by omega) (by omega)
  obtain ⟨k, hk⟩ : ∃ k, k = stab ⟨N, s, r⟩ := ⟨_, rfl⟩
  rw [← hk] at p1 p2 p3
  have hS := stable_yes hv hk.symm
  have hst := cols_stop (As := [⟨N, s, r⟩]) (by omega) p2
  have hsty := cols_stay hst (8 - k)
  rw [show k + (8 - k) = 8 by omega] at hsty
  refine ⟨k, hS.1, hS.2, ?_, p1, ?_, colsR_yes hv (by omega), fun j hj => ?_⟩
  · have a := most_grow (As := [⟨N, s, r⟩]) (by omega) k p3
    have b := cols_most_le [⟨N, s, r⟩] k
    omega
  · have e := colsR_yes (C := 8) hv (by omega)
    rw [hsty] at e
    exact e
  · have e1 : colsR N s r (j : Int) = cols [⟨N, s, r⟩] j := colsR_yes hv (by omega)
    have e2 : colsR N s r (k : Int) = cols [⟨N, s, r⟩] k := colsR_yes hv (by omega)
    have a := most_mono (As := [⟨N, s, r⟩]) (by omega) j
    have b := p3 j (by omega)
    have c := most_nonneg (cols [⟨N, s, r⟩] j)
    unfold countsR counts
    rw [e1, e2, List.length_map, List.length_map, List.length_range, List.length_range]
    rw [← hj] at a b
    omega

set_option maxHeartbeats 40000000 in
set_option maxRecDepth 100000 in
theorem walk (a0 : Option Addr) (n0 c0 : Nat) (l0 : List Int) (w : World) (h0 : row.IsRow .u8 w a0 n0 c0 l0) :
    Calls Tryz.prog 3 #[.slice a0 n0 c0] w fun e w' => e = .returned (.bool true) ∧ Below w.heap.size w w' := by
  obtain ⟨by0, nc0, cm0⟩ := byt_of_row h0
  have BY0 := Lib.hid by0
  clear by0 h0
  by_cases hg0 : 1048576 < n0
  · go_enter Tryz.func3, Tryz.ntmps3
    go_wp2
    go_ret
    exact ⟨rfl, Below.refl _ _⟩
  go_enter Tryz.func3, Tryz.ntmps3
  have AW_0 : Hid (Below w.heap.size w w) := Below.refl _ _
  go_wp2_with fail
  refine (drawStable_any a0 n0 c0 _ BY0.out nc0 cm0).mono ?_
  rintro e w_1 ⟨n, s, r, rfl, hnw, hs, hr, hb⟩
  have hbn := hb
  have AW_1 : Hid (Below w.heap.size w w_1) := AW_0.out.trans (hbn.mono AW_0.out.size)
  clear hbn AW_0 
  have FA_1 : Hid (Box 24 (w_1.alloc (.cells #[.int .i64 n, .string s, .string r] 24)) (w_1.heap.size) n s r) := Box.new _ w_1 (w_1.heap.size) (by simp) _ _ _
  obtain ⟨a0, a1, a2⟩ := Box.c FA_1.out
  clear hb
  obtain ⟨kn, hkn⟩ : ∃ q, q = stableN n s r := ⟨_, rfl⟩
  obtain ⟨C, hC⟩ : ∃ q, q = stableL n s r := ⟨_, rfl⟩
  have HK := Lib.hid (show _ ∧ _ from ⟨hkn, hC⟩)
  have HLEN : Hid (C.length ≤ 8) := by rw [hC]; exact stable_len n s r
  clear hkn hC
  go_wp2_with fail
  clear a0 a1 a2
  refine (implStableColours_any n s r _ (by omega) (by omega)).mono ?_
  rintro e w_2 ⟨v, rfl, ho, hb⟩
  have hbn : Below w_1.heap.size w_1 w_2 := ((Below.refl w_1.heap.size w_1).alloc (by simp) (.cells #[.int .i64 n, .string s, .string r] 24)).trans (hb.mono (by simp))
  have FA_2 := Lib.hid (FA_1.out.below hb (by simp))
  have AW_2 : Hid (Below w.heap.size w w_2) := AW_1.out.trans (hbn.mono AW_1.out.size)
  clear hbn AW_1 FA_1
  rw [← HK.out.2] at ho
  rw [← HK.out.1]
  have FL_2 := Lib.hid (ho)
  clear ho hb
  obtain ⟨a0, a1, a2⟩ := Box.c FA_2.out
  go_wp2_with fail
  clear a0 a1 a2
  refine (specStableColours_any n s r _ (by omega) (by omega)).mono ?_
  rintro e w_3 ⟨u, rfl, ho, hb⟩
  have hbn := hb
  have FA_3 := Lib.hid (FA_2.out.below hbn FA_2.out.lt)
  have FL_3 := Lib.hid (FL_2.out.below hbn (Nat.le_refl _))
  have AW_3 : Hid (Below w.heap.size w w_3) := AW_2.out.trans (hbn.mono AW_2.out.size)
  clear hbn AW_2 FA_2 FL_2
  rw [← HK.out.2] at ho
  rw [← HK.out.1]
  have FU_3 := Lib.hid (ho)
  clear ho hb
  obtain ⟨a0, a1, a2⟩ := Box.c FA_3.out
  go_wp2_with fail
  refine (gsSame_same _ _ C _ (OwnI.reads FL_3.out) (OwnI.reads FU_3.out) (by have := HLEN.out; omega)).mono ?_
  rintro e w_4 ⟨rfl, hb⟩
  have hbn := hb
  have FA_4 := Lib.hid (FA_3.out.below hbn FA_3.out.lt)
  have FL_4 := Lib.hid (FL_3.out.below hbn (Nat.le_refl _))
  have FU_4 := Lib.hid (FU_3.out.below hbn (Nat.le_refl _))
  have AW_4 : Hid (Below w.heap.size w w_4) := AW_3.out.trans (hbn.mono AW_3.out.size)
  clear hbn AW_3 FA_3 FL_3 FU_3
  clear hb
  clear a0 a1 a2
  cases hvt : validB n s r with
  | false =>
    have hk1 : kn = -1 := by rw [HK.out.1]; exact (stable_no hvt).2
    have HVT := Lib.hid hvt
    clear hvt HK
    subst hk1
    obtain ⟨a0, a1, a2⟩ := Box.c FA_4.out
    go_wp2_with fail
    clear a0 a1 a2
    refine (gsSame_same _ _ C _ (OwnI.reads FL_4.out) (OwnI.reads FU_4.out) (by have := HLEN.out; omega)).mono ?_
    rintro e w_5 ⟨rfl, hb⟩
    have hbn := hb
    have FA_5 := Lib.hid (FA_4.out.below hbn FA_4.out.lt)
    have FL_5 := Lib.hid (FL_4.out.below hbn (Nat.le_refl _))
    have FU_5 := Lib.hid (FU_4.out.below hbn (Nat.le_refl _))
    have AW_5 : Hid (Below w.heap.size w w_5) := AW_4.out.trans (hbn.mono AW_4.out.size)
    clear hbn AW_4 FA_4 FL_4 FU_4
    clear hb
    obtain ⟨a0, a1, a2⟩ := Box.c FA_5.out
    go_wp2_with fail
    clear a0 a1 a2
    refine (implValid_any n s r _ (by omega) (by omega)).mono ?_
    rintro e w_6 ⟨rfl, hb⟩
    have hbn := hb
    have FA_6 := Lib.hid (FA_5.out.below hbn FA_5.out.lt)
    have FL_6 := Lib.hid (FL_5.out.below hbn (Nat.le_refl _))
    have FU_6 := Lib.hid (FU_5.out.below hbn (Nat.le_refl _))
    have AW_6 : Hid (Below w.heap.size w w_6) := AW_5.out.trans (hbn.mono AW_5.out.size)
    clear hbn AW_5 FA_5 FL_5 FU_5
    clear hb
    rw [HVT.out]
    go_wp2
    go_ret
    exact ⟨rfl, AW_6.out⟩
  | true =>
    obtain ⟨N, rfl, hN1, hN8, hsN, hrN⟩ := valid_size hvt
    obtain ⟨k, hf⟩ := fact hvt hN1 hN8
    have HF := Lib.hid hf
    have hkk : kn = (k : Int) := by rw [HK.out.1]; exact hf.n
    have hCk : C = cols [⟨N, s, r⟩] k := by rw [HK.out.2]; exact hf.L
    have HCk := Lib.hid hCk
    have HCl : Hid (C.length = N) := by rw [Hid, hCk]; exact one_len _ k
    have hkN : k < N := hf.kN
    have hk8 : k < 8 := hf.k8
    have HKK := Lib.hid hkk
    have hkn0 : 0 ≤ kn := by omega
    have hknN : kn < (N : Int) := by omega
    clear hkk hvt hsN hrN hf hCk HK FU_4
    obtain ⟨gv, cv, hv⟩ : ∃ gv cv, v = .slice (some ⟨gv, 0, none⟩) N cv := by
      rcases FL_4.out.shape with ⟨_, h0⟩ | ⟨g, cap, hv⟩
      · have := HCl.out; rw [h0] at this; simp at this; omega
      · exact ⟨g, cap, by rw [hv, HCl.out]⟩
    subst hv
    obtain ⟨a0, a1, a2⟩ := Box.c FA_4.out
    go_wp2_with fail
    clear a0 a1 a2
    refine (implColoursOf_any N s r 8 _ (by omega) (by omega)).mono ?_
    rintro e w_5 ⟨v2, rfl, ho, hb⟩
    have hbn := hb
    have FA_5 := Lib.hid (FA_4.out.below hbn FA_4.out.lt)
    have FL_5 := Lib.hid (FL_4.out.below hbn (Nat.le_refl _))
    have AW_5 : Hid (Below w.heap.size w w_5) := AW_4.out.trans (hbn.mono AW_4.out.size)
    clear hbn AW_4 FA_4 FL_4
    rw [HF.out.later, ← HCk.out] at ho
    have FM_5 := Lib.hid (ho)
    clear ho hb
    obtain ⟨gm, cm, hv⟩ : ∃ gm cm, v2 = .slice (some ⟨gm, 0, none⟩) N cm := by
      rcases FM_5.out.shape with ⟨_, h0⟩ | ⟨g, cap, hv⟩
      · have := HCl.out; rw [h0] at this; simp at this; omega
      · exact ⟨g, cap, by rw [hv, HCl.out]⟩
    subst hv
    obtain ⟨BL, FP⟩ : ∃ BL, Hid (OwnI 3 w_5 BL (.slice (some ⟨gv, 0, none⟩) N cv) C) := ⟨_, FL_5.out⟩
    obtain ⟨BM, FQ⟩ : ∃ BM, Hid (OwnI 3 w_5 BM (.slice (some ⟨gm, 0, none⟩) N cm) C) := ⟨_, FM_5.out⟩
    clear FL_5 FM_5
    obtain ⟨a0, a1, a2⟩ := Box.c FA_5.out
    go_wp2_with fail
    clear a0 a1 a2
    go_loopw [9] (fun i wr => ∃ X : Nat, X ≤ N ∧ i = .int .i64 X ∧ Below w.heap.size w wr ∧ Box 24 wr w_1.heap.size N s r ∧ OwnI 3 wr BL (.slice (some ⟨gv, 0, none⟩) N cv) C ∧ OwnI 3 wr BM (.slice (some ⟨gm, 0, none⟩) N cm) C) (fun i _ => N - (intOf i).toNat)
    case atStart => exact ⟨0, Nat.zero_le _, rfl, AW_5.out, FA_5.out, FP.out, FQ.out⟩
    case round =>
      clear AW_5 FA_5 FP FQ
      obtain ⟨X, hXN, rfl, h1, h2, h3, h4⟩ := hrel
      have HQ := Lib.hid (show _ ∧ _ ∧ _ ∧ _ from ⟨h1, h2, h3, h4⟩)
      clear h1 h2 h3 h4
      obtain ⟨a0, a1, a2⟩ := HQ.out.2.1.c
      by_cases hX : X < N
      · go_wp2_with fail
        clear a0 a1 a2
        go_loopw [10] (fun i wr => ∃ Y : Nat, Y ≤ N ∧ i = .int .i64 Y ∧ Below w.heap.size w wr ∧ Box 24 wr w_1.heap.size N s r ∧ OwnI 3 wr BL (.slice (some ⟨gv, 0, none⟩) N cv) C ∧ OwnI 3 wr BM (.slice (some ⟨gm, 0, none⟩) N cm) C) (fun i _ => N - (intOf i).toNat)
        case atStart => exact ⟨0, Nat.zero_le _, rfl, HQ.out⟩
        case round =>
          clear HQ
          obtain ⟨Y, hYN, rfl, h1, h2, h3, h4⟩ := hrel
          have HQ := Lib.hid (show _ ∧ _ ∧ _ ∧ _ from ⟨h1, h2, h3, h4⟩)
          obtain ⟨a0, a1, a2⟩ := HQ.out.2.1.c
          by_cases hY : Y < N
          · have kx := h3.cell X (by have := HCl.out; omega)
            have ky := h3.cell Y (by have := HCl.out; omega)
            have lx := h4.cell X (by have := HCl.out; omega)
            have ly := h4.cell Y (by have := HCl.out; omega)
            clear h1 h2 h3 h4
            obtain ⟨cx, hcx⟩ : ∃ q, q = C.getD X 0 := ⟨_, rfl⟩
            obtain ⟨cy, hcy⟩ : ∃ q, q = C.getD Y 0 := ⟨_, rfl⟩
            rw [← hcx] at kx lx
            rw [← hcy] at ky ly
            clear hcx hcy
            have R := Lib.hid (show _ ∧ _ ∧ _ ∧ _ from ⟨HQ.out.1.drew, Box.drew HQ.out.2.1, HQ.out.2.2.1.below ((Below.refl _ _).drew) (Nat.le_refl _), HQ.out.2.2.2.below ((Below.refl _ _).drew) (Nat.le_refl _)⟩)
            have q0 : ∀ QQ : Wd (fun Q => Q.cell? ⟨gv, X, none⟩ = some (.int .i64 cx) ∧ Q.cell? ⟨gv, Y, none⟩ = some (.int .i64 cy) ∧ Q.cell? ⟨gm, X, none⟩ = some (.int .i64 cx) ∧ Q.cell? ⟨gm, Y, none⟩ = some (.int .i64 cy)), QQ.w.cell? ⟨gv, X, none⟩ = some (.int .i64 cx) := fun QQ => QQ.ok.1
            have q1 : ∀ QQ : Wd (fun Q => Q.cell? ⟨gv, X, none⟩ = some (.int .i64 cx) ∧ Q.cell? ⟨gv, Y, none⟩ = some (.int .i64 cy) ∧ Q.cell? ⟨gm, X, none⟩ = some (.int .i64 cx) ∧ Q.cell? ⟨gm, Y, none⟩ = some (.int .i64 cy)), QQ.w.cell? ⟨gv, Y, none⟩ = some (.int .i64 cy) := fun QQ => QQ.ok.2.1
            have q2 : ∀ QQ : Wd (fun Q => Q.cell? ⟨gv, X, none⟩ = some (.int .i64 cx) ∧ Q.cell? ⟨gv, Y, none⟩ = some (.int .i64 cy) ∧ Q.cell? ⟨gm, X, none⟩ = some (.int .i64 cx) ∧ Q.cell? ⟨gm, Y, none⟩ = some (.int .i64 cy)), QQ.w.cell? ⟨gm, X, none⟩ = some (.int .i64 cx) := fun QQ => QQ.ok.2.2.1
            have q3 : ∀ QQ : Wd (fun Q => Q.cell? ⟨gv, X, none⟩ = some (.int .i64 cx) ∧ Q.cell? ⟨gv, Y, none⟩ = some (.int .i64 cy) ∧ Q.cell? ⟨gm, X, none⟩ = some (.int .i64 cx) ∧ Q.cell? ⟨gm, Y, none⟩ = some (.int .i64 cy)), QQ.w.cell? ⟨gm, Y, none⟩ = some (.int .i64 cy) := fun QQ => QQ.ok.2.2.2
            have hne : Nonempty (Wd (fun Q => Q.cell? ⟨gv, X, none⟩ = some (.int .i64 cx) ∧ Q.cell? ⟨gv, Y, none⟩ = some (.int .i64 cy) ∧ Q.cell? ⟨gm, X, none⟩ = some (.int .i64 cx) ∧ Q.cell? ⟨gm, Y, none⟩ = some (.int .i64 cy))) := ⟨⟨wr, ⟨kx, ky, lx, ly⟩⟩⟩
            go_wp2_with fail
            refine chain (S := (fun Q => Q.cell? ⟨gv, X, none⟩ = some (.int .i64 cx) ∧ Q.cell? ⟨gv, Y, none⟩ = some (.int .i64 cy) ∧ Q.cell? ⟨gm, X, none⟩ = some (.int .i64 cx) ∧ Q.cell? ⟨gm, Y, none⟩ = some (.int .i64 cy))) [] [true, true, true, true, true, true, true, true, true, true, true, true, true, true, true, true, true, true, true] (by kernel_rfl) (by kernel_rfl) (by kernel_rfl) ⟨kx, ky, lx, ly⟩ ?_
            simp only [wpSegs, pickB, List.dropLast_cons_cons, List.dropLast_singleton, List.getLast?_cons_cons, List.getLast?_singleton, List.toList_toArray, List.getElem?_toArray, List.getElem?_cons_succ, List.getElem?_cons_zero, Option.toList_some]
            repeat (go_big_quiet_step (fail))
            refine wpQuiet_nil ?_
            clear q0 q1 q2 q3 hne
            go_wp2
            go_roundw
            case rel => first | exact ⟨Y + 1, by omega, by go_num, R.out⟩ | ((repeat apply Exists.intro); exact ⟨⟨Y + 1, by omega, by go_num, R.out⟩, rfl⟩)
            case measure => simp [intOf]; omega
          · obtain rfl : N = Y := by omega
            clear h1 h2 h3 h4
            go_wp2
            go_roundw
            case rel => exact ⟨X + 1, by omega, by go_num, HQ.out⟩
            case measure => simp [intOf]; omega
      · obtain rfl : N = X := by omega
        clear hXN
        have t90 : decide (kn < (N : Int)) = true := decide_eq_true hknN
        have HNOW : Hid (colsR N s r kn = C) := by rw [Hid, HKK.out, HCk.out]; exact HF.out.now
        by_cases hk0 : kn = 0
        · have t2 : (kn == 0) = true := by simp [hk0]
          clear hk0
          have D : Hid (Below w.heap.size w wr.drew ∧ Box 24 wr.drew w_1.heap.size N s r ∧ OwnI 3 wr.drew BL (.slice (some ⟨gv, 0, none⟩) N cv) C) := ⟨HQ.out.1.drew, Box.drew HQ.out.2.1, HQ.out.2.2.1.below ((Below.refl _ _).drew) (Nat.le_refl _)⟩
          have q0 : ∀ QQ : Wd (fun Q => Q.cell? ⟨w_1.heap.size, 0, none⟩ = some (.int .i64 N) ∧ Q.cell? ⟨w_1.heap.size, 1, none⟩ = some (.string s) ∧ Q.cell? ⟨w_1.heap.size, 2, none⟩ = some (.string r)), QQ.w.cell? ⟨w_1.heap.size, 0, none⟩ = some (.int .i64 N) := fun QQ => QQ.ok.1
          have q1 : ∀ QQ : Wd (fun Q => Q.cell? ⟨w_1.heap.size, 0, none⟩ = some (.int .i64 N) ∧ Q.cell? ⟨w_1.heap.size, 1, none⟩ = some (.string s) ∧ Q.cell? ⟨w_1.heap.size, 2, none⟩ = some (.string r)), QQ.w.cell? ⟨w_1.heap.size, 1, none⟩ = some (.string s) := fun QQ => QQ.ok.2.1
          have q2 : ∀ QQ : Wd (fun Q => Q.cell? ⟨w_1.heap.size, 0, none⟩ = some (.int .i64 N) ∧ Q.cell? ⟨w_1.heap.size, 1, none⟩ = some (.string s) ∧ Q.cell? ⟨w_1.heap.size, 2, none⟩ = some (.string r)), QQ.w.cell? ⟨w_1.heap.size, 2, none⟩ = some (.string r) := fun QQ => QQ.ok.2.2
          have hne : Nonempty (Wd (fun Q => Q.cell? ⟨w_1.heap.size, 0, none⟩ = some (.int .i64 N) ∧ Q.cell? ⟨w_1.heap.size, 1, none⟩ = some (.string s) ∧ Q.cell? ⟨w_1.heap.size, 2, none⟩ = some (.string r))) := ⟨⟨wr, ⟨a0, a1, a2⟩⟩⟩
          go_wp2_with fail
          refine chain (S := (fun Q => Q.cell? ⟨w_1.heap.size, 0, none⟩ = some (.int .i64 N) ∧ Q.cell? ⟨w_1.heap.size, 1, none⟩ = some (.string s) ∧ Q.cell? ⟨w_1.heap.size, 2, none⟩ = some (.string r))) [([true, true, true, true, true, true, true, true], 8), ([], 9), ([false, false, false, false, false, false, false, false, false, false, true, true, true, true, true, true, true, false, false, true, true, true], 17), ([false, false, false, false, false, false, false, false, false, false, false, false, false, false, false, false, false, false, true], 22)] [false, false, false, false, false, false, false, false, false, false, false, false, false, false, false, false, false, false, false, false, false, false, false, true, true, true, true, true] (by kernel_rfl) (by kernel_rfl) (by kernel_rfl) ⟨a0, a1, a2⟩ ?_
          simp only [wpSegs, pickB, List.dropLast_cons_cons, List.dropLast_singleton, List.getLast?_cons_cons, List.getLast?_singleton, List.toList_toArray, List.getElem?_toArray, List.getElem?_cons_succ, List.getElem?_cons_zero, Option.toList_some]
          repeat (go_big_quiet_step (fail))
          refine wpQuiet_nil ?_
          intro K hK
          go_wp2_with fail
          refine (implColoursOf_any N s r kn _ (by omega) (by omega)).mono ?_
          rintro er w6 ⟨vz, rfl, ho, hb⟩
          rw [HNOW.out] at ho
          have HN6 := Lib.hid (show _ ∧ _ ∧ _ ∧ _ from ⟨D.out.1.trans (hb.mono D.out.1.size), D.out.2.1.below hb D.out.2.1.lt, D.out.2.2.below hb (Nat.le_refl _), ho⟩)
          clear ho hb
          go_wp2_with fail
          refine hK _ _ HN6.out.2.1.c ?_
          clear hK K
          repeat (go_big_quiet_step (fail))
          refine wpQuiet_nil ?_
          intro K hK
          go_wp2_with fail
          refine (gsSame_same _ _ C _ (OwnI.reads HN6.out.2.2.1) (OwnI.reads HN6.out.2.2.2) (by have := HCl.out; omega)).mono ?_
          rintro er w7 ⟨rfl, hb⟩
          have HN7 := Lib.hid (show _ ∧ _ from ⟨HN6.out.1.trans (hb.mono HN6.out.1.size), HN6.out.2.1.below hb HN6.out.2.1.lt⟩)
          clear hb
          go_wp2_with fail
          refine hK _ _ HN7.out.2.c ?_
          clear hK K
          repeat (go_big_quiet_step (fail))
          refine wpQuiet_nil ?_
          intro K hK
          go_wp2_with fail
          skip
          refine hK _ _ HN7.out.2.c ?_
          clear hK K
          repeat (go_big_quiet_step (fail))
          refine wpQuiet_nil ?_
          intro K hK
          go_wp2_with fail
          skip
          refine hK _ _ HN7.out.2.c ?_
          clear hK K
          repeat (go_big_quiet_step (fail))
          refine wpQuiet_nil ?_
          clear q0 q1 q2 hne
          go_wp2
          go_ret
          exact ⟨rfl, HN7.out.1⟩
        · have t2 : (kn == 0) = false := by simp [hk0]
          have HLS : Hid ((countsR N s r (kn - 1)).length < (countsR N s r kn).length) := by
            have h1 := HF.out.less (k - 1) (by have := HKK.out; omega)
            have e1 : ((k - 1 : Nat) : Int) = kn - 1 := by have := HKK.out; omega
            rw [e1, ← HKK.out] at h1
            exact h1
          have hk1 : 1 ≤ kn := by omega
          clear hk0
          have D : Hid (Below w.heap.size w wr.drew ∧ Box 24 wr.drew w_1.heap.size N s r ∧ OwnI 3 wr.drew BL (.slice (some ⟨gv, 0, none⟩) N cv) C) := ⟨HQ.out.1.drew, Box.drew HQ.out.2.1, HQ.out.2.2.1.below ((Below.refl _ _).drew) (Nat.le_refl _)⟩
          have q0 : ∀ QQ : Wd (fun Q => Q.cell? ⟨w_1.heap.size, 0, none⟩ = some (.int .i64 N) ∧ Q.cell? ⟨w_1.heap.size, 1, none⟩ = some (.string s) ∧ Q.cell? ⟨w_1.heap.size, 2, none⟩ = some (.string r)), QQ.w.cell? ⟨w_1.heap.size, 0, none⟩ = some (.int .i64 N) := fun QQ => QQ.ok.1
          have q1 : ∀ QQ : Wd (fun Q => Q.cell? ⟨w_1.heap.size, 0, none⟩ = some (.int .i64 N) ∧ Q.cell? ⟨w_1.heap.size, 1, none⟩ = some (.string s) ∧ Q.cell? ⟨w_1.heap.size, 2, none⟩ = some (.string r)), QQ.w.cell? ⟨w_1.heap.size, 1, none⟩ = some (.string s) := fun QQ => QQ.ok.2.1
          have q2 : ∀ QQ : Wd (fun Q => Q.cell? ⟨w_1.heap.size, 0, none⟩ = some (.int .i64 N) ∧ Q.cell? ⟨w_1.heap.size, 1, none⟩ = some (.string s) ∧ Q.cell? ⟨w_1.heap.size, 2, none⟩ = some (.string r)), QQ.w.cell? ⟨w_1.heap.size, 2, none⟩ = some (.string r) := fun QQ => QQ.ok.2.2
          have hne : Nonempty (Wd (fun Q => Q.cell? ⟨w_1.heap.size, 0, none⟩ = some (.int .i64 N) ∧ Q.cell? ⟨w_1.heap.size, 1, none⟩ = some (.string s) ∧ Q.cell? ⟨w_1.heap.size, 2, none⟩ = some (.string r))) := ⟨⟨wr, ⟨a0, a1, a2⟩⟩⟩
          go_wp2_with fail
          refine chain (S := (fun Q => Q.cell? ⟨w_1.heap.size, 0, none⟩ = some (.int .i64 N) ∧ Q.cell? ⟨w_1.heap.size, 1, none⟩ = some (.string s) ∧ Q.cell? ⟨w_1.heap.size, 2, none⟩ = some (.string r))) [([true, true, true, true, true, true, true, true], 8), ([], 9), ([false, false, false, false, false, false, false, false, false, false, true, true, true, true, true, true, true, false, false, true, true, true], 17), ([false, false, false, false, false, false, false, false, false, false, false, false, false, false, false, false, false, false, true], 22)] [false, false, false, false, false, false, false, false, false, false, false, false, false, false, false, false, false, false, false, false, false, false, false, true, true, true, true, true] (by kernel_rfl) (by kernel_rfl) (by kernel_rfl) ⟨a0, a1, a2⟩ ?_
          simp only [wpSegs, pickB, List.dropLast_cons_cons, List.dropLast_singleton, List.getLast?_cons_cons, List.getLast?_singleton, List.toList_toArray, List.getElem?_toArray, List.getElem?_cons_succ, List.getElem?_cons_zero, Option.toList_some]
          repeat (go_big_quiet_step (fail))
          refine wpQuiet_nil ?_
          intro K hK
          go_wp2_with fail
          refine (implColoursOf_any N s r kn _ (by omega) (by omega)).mono ?_
          rintro er w6 ⟨vz, rfl, ho, hb⟩
          rw [HNOW.out] at ho
          have HN6 := Lib.hid (show _ ∧ _ ∧ _ ∧ _ from ⟨D.out.1.trans (hb.mono D.out.1.size), D.out.2.1.below hb D.out.2.1.lt, D.out.2.2.below hb (Nat.le_refl _), ho⟩)
          clear ho hb
          go_wp2_with fail
          refine hK _ _ HN6.out.2.1.c ?_
          clear hK K
          repeat (go_big_quiet_step (fail))
          refine wpQuiet_nil ?_
          intro K hK
          go_wp2_with fail
          refine (gsSame_same _ _ C _ (OwnI.reads HN6.out.2.2.1) (OwnI.reads HN6.out.2.2.2) (by have := HCl.out; omega)).mono ?_
          rintro er w7 ⟨rfl, hb⟩
          have HN7 := Lib.hid (show _ ∧ _ from ⟨HN6.out.1.trans (hb.mono HN6.out.1.size), HN6.out.2.1.below hb HN6.out.2.1.lt⟩)
          clear hb
          go_wp2_with fail
          refine hK _ _ HN7.out.2.c ?_
          clear hK K
          repeat (go_big_quiet_step (fail))
          refine wpQuiet_nil ?_
          intro K hK
          go_wp2_with fail
          refine (implColourCounts_any N s r kn _ (by omega) (by omega)).mono ?_
          rintro er w8 ⟨vx, rfl, ho, hb⟩
          obtain ⟨ax, cx, hvx⟩ := (OwnI.reads ho).len
          obtain ⟨lx, hlx⟩ : ∃ q, q = (countsR N s r kn).length := ⟨_, rfl⟩
          rw [← hlx] at hvx
          have HLX := Lib.hid hlx
          subst hvx
          have HN8 := Lib.hid (show _ ∧ _ from ⟨HN7.out.1.trans (hb.mono HN7.out.1.size), HN7.out.2.below hb HN7.out.2.lt⟩)
          clear hb ho hlx
          go_wp2_with fail
          refine hK _ _ HN8.out.2.c ?_
          clear hK K
          repeat (go_big_quiet_step (fail))
          refine wpQuiet_nil ?_
          intro K hK
          go_wp2_with fail
          refine (implColourCounts_any N s r (kn - 1) _ (by omega) (by omega)).mono ?_
          rintro er w9 ⟨vy, rfl, ho, hb⟩
          obtain ⟨ay, cy, hvy⟩ := (OwnI.reads ho).len
          obtain ⟨ly, hly⟩ : ∃ q, q = (countsR N s r (kn - 1)).length := ⟨_, rfl⟩
          rw [← hly] at hvy
          have HLY := Lib.hid hly
          subst hvy
          have HN9 := Lib.hid (show _ ∧ _ from ⟨HN8.out.1.trans (hb.mono HN8.out.1.size), HN8.out.2.below hb HN8.out.2.lt⟩)
          have tl : decide (lx > ly) = true := decide_eq_true (by have := HLS.out; have := HLX.out; have := HLY.out; omega)
          clear hb ho hly
          go_wp2_with fail
          refine hK _ _ HN9.out.2.c ?_
          clear hK K
          repeat (go_big_quiet_step (fail))
          refine wpQuiet_nil ?_
          clear q0 q1 q2 hne
          go_wp2
          go_ret
          exact ⟨rfl, HN9.out.1⟩

end Go.Proofs.YtglehegjimhbjaaGreatDoor.fnStableW
