/- FnBothColours: the walk. -/
import Derived.Test.YtglehegjimhbjaaGreatDoorDrawP
import Derived.Test.YtglehegjimhbjaaGreatDoorPkE
import Derived.Test.YtglehegjimhbjaaGreatDoorColQ
import Derived.Test.YtglehegjimhbjaaGreatDoorGs
import Derived.Test.YtglehegjimhbjaaGreatDoorRow
namespace Go.Proofs.YtglehegjimhbjaaGreatDoor.fnBothColoursW
set_option linter.unusedVariables false
set_option linter.unusedSimpArgs false
open Go.ChangeShapes Go.WideShapes Go.ChangeAt Go.RowKit
open Go.Proofs.YtglehegjimhbjaaGreatDoor.flow Go.Proofs.YtglehegjimhbjaaGreatDoor.lib Go.Proofs.YtglehegjimhbjaaGreatDoor.st Go.Proofs.YtglehegjimhbjaaGreatDoor.draw Go.Proofs.YtglehegjimhbjaaGreatDoor.base Go.Proofs.YtglehegjimhbjaaGreatDoor.chain Go.Proofs.YtglehegjimhbjaaGreatDoor.gs Go.Proofs.YtglehegjimhbjaaGreatDoor.col Go.Proofs.YtglehegjimhbjaaGreatDoor.colp Go.Proofs.YtglehegjimhbjaaGreatDoor.both Go.Proofs.YtglehegjimhbjaaGreatDoor.specd Go.Proofs.YtglehegjimhbjaaGreatDoor.coli Go.Proofs.YtglehegjimhbjaaGreatDoor.colj Go.Proofs.YtglehegjimhbjaaGreatDoor.cole Go.Proofs.YtglehegjimhbjaaGreatDoor.colq Go.Proofs.YtglehegjimhbjaaGreatDoor.less Go.Proofs.YtglehegjimhbjaaGreatDoor.drawp
/-- bytes that came in may be drawn from -/
theorem byt_of_row {w : World} {a : Option Addr} {n c : Nat} {zs : List Int} (h : row.IsRow .u8 w a n c zs) : Byt w w.heap.size a n ∧ n ≤ c ∧ c ≤ 9223372036854775807 := by
  rcases h with ⟨rfl, rfl, rfl, rfl⟩ | ⟨x, rfl, hl, hm, hz, hcell, hwf⟩
  · exact ⟨.inl rfl, Nat.le_refl _, by omega⟩
  · refine ⟨?_, hl, hm⟩
    by_cases h0 : n = 0
    · exact .inl h0
    · obtain ⟨b, off, spot⟩ := x
      have hc := hcell 0 (by omega)
      have hspot : spot = none := by simpa [Addr.add] using World.cell?_spot hc
      subst hspot
      have hlt := World.block_lt_of_cell? w _ hc
      refine .inr ⟨b, off, rfl, by simpa [Addr.add] using hlt, fun i hi => ?_⟩
      have hci := hcell i (by omega)
      have hw := hwf (zs.getD i 0) (by rw [List.getD_eq_getElem?_getD, List.getElem?_eq_getElem (by omega)]; exact List.getElem_mem _)
      have hb : 0 ≤ zs.getD i 0 ∧ zs.getD i 0 ≤ 255 := by
        generalize zs.getD i 0 = z at hw ⊢
        simp only [Lit.wf, IntKind.min, IntKind.max, IntKind.signed, IntKind.bits, Bool.and_eq_true, decide_eq_true_eq] at hw
        simp at hw
        omega
      refine ⟨(zs.getD i 0).toNat, by omega, ?_⟩
      rw [show (⟨b, off, none⟩ : Addr).add i = ⟨b, off + i, none⟩ from by simp only [Addr.add]; split <;> simp [*]] at hci
      rw [hci, show (((zs.getD i 0).toNat : Nat) : Int) = zs.getD i 0 from by omega]

/-- what the law asks, at valid arguments -/
structure Fact (N M K : Nat) (s r t q : ByteArray) (P Q C : List Int) : Prop where
  n1 : 1 ≤ N
  n8 : N ≤ 8
  pl : P.length = N
  cl : C.length = N
  own : colsR N s r K = C
  ord : OrdEq P C
  swA : bothA M t q N s r K = Q
  swB : bothB M t q N s r K = P
  seA : bothA N s r N s r K = C
  seB : bothB N s r N s r K = C
theorem fact {n : Int} {s r : ByteArray} {m : Int} {t q : ByteArray} {x : Int} (h : bothA n s r m t q x ≠ []) : ∃ N M K : Nat, n = N ∧ m = M ∧ x = K ∧ ∃ C, Fact N M K s r t q (bothA n s r m t q x) (bothB n s r m t q x) C := by
  by_cases hv : validB n s r = true ∧ validB m t q = true ∧ basic.inB x 0 8 = true
  · obtain ⟨N, rfl, h1, h8, -, -⟩ := valid_size hv.1
    obtain ⟨M, rfl, g1, g8, -, -⟩ := valid_size hv.2.1
    have hx := of_decide_eq_true hv.2.2
    obtain ⟨K, rfl, hK⟩ : ∃ K : Nat, x = K ∧ K ≤ 8 := ⟨x.toNat, by omega, by omega⟩
    obtain ⟨e1, e2⟩ := both_yes hv.1 hv.2.1 hK
    obtain ⟨f1, f2⟩ := both_yes hv.2.1 hv.1 hK
    obtain ⟨k1, k2⟩ := both_yes hv.1 hv.1 hK
    refine ⟨N, M, K, rfl, rfl, rfl, cols [⟨N, s, r⟩] K, ?_⟩
    rw [e1, e2]
    refine ⟨h1, h8, colA_length _ _ _, one_len _ _, colsR_yes hv.1 hK, both_ord _ _ _, ?_, ?_, ?_, ?_⟩
    · rw [f1, swapA]
    · rw [f2, swapB]
    · rw [k1, colA_self]
    · rw [k2, ← swapA, colA_self]
  · exact absurd (both_no hv).1 h

set_option maxHeartbeats 40000000 in
set_option maxRecDepth 100000 in
theorem walk (a0 : Option Addr) (n0 c0 : Nat) (l0 : List Int) (w : World) (h0 : row.IsRow .u8 w a0 n0 c0 l0) :
    Calls Tryz.prog 4 #[.slice a0 n0 c0] w fun e w' => e = .returned (.bool true) ∧ Below w.heap.size w w' := by
  obtain ⟨by0, nc0, cm0⟩ := byt_of_row h0
  have BY0 := Lib.hid by0
  clear by0 h0
  by_cases hg0 : 1048576 < n0
  · go_enter Tryz.func4, Tryz.ntmps4
    go_wp2
    go_ret
    exact ⟨rfl, Below.refl _ _⟩
  go_enter Tryz.func4, Tryz.ntmps4
  have AW_0 : Hid (Below w.heap.size w w) := Below.refl _ _
  go_wp2_with fail
  refine (drawBoth_any a0 n0 c0 _ BY0.out nc0 cm0).mono ?_
  rintro e w_1 ⟨n, s, r, m, t, q, x, rfl, hnw, hs, hr, hmw, ht, hq, hxw, hb⟩
  have hbn := hb
  have AW_1 : Hid (Below w.heap.size w w_1) := AW_0.out.trans (hbn.mono AW_0.out.size)
  clear hbn AW_0 
  have FA_1 : Hid (Box 24 (w_1.alloc (.cells #[.int .i64 n, .string s, .string r] 24)) (w_1.heap.size) n s r) := Box.new _ w_1 (w_1.heap.size) (by simp) _ _ _
  have FA_1 := Lib.hid (FA_1.out.below ((Below.refl (w_1.heap.size + 1) _).alloc (by simp) (.cells #[.int .i64 m, .string t, .string q] 24)) (by omega))
  have FB_1 : Hid (Box 24 ((w_1.alloc (.cells #[.int .i64 n, .string s, .string r] 24)).alloc (.cells #[.int .i64 m, .string t, .string q] 24)) (w_1.heap.size + 1) m t q) := Box.new _ (w_1.alloc (.cells #[.int .i64 n, .string s, .string r] 24)) (w_1.heap.size + 1) (by simp) _ _ _
  obtain ⟨a0, a1, a2⟩ := Box.c FA_1.out
  obtain ⟨b0, b1, b2⟩ := Box.c FB_1.out
  clear hb hnw hmw hxw
  obtain ⟨P, hP⟩ : ∃ P, P = bothA n s r m t q x := ⟨_, rfl⟩
  obtain ⟨Q, hQ⟩ : ∃ Q, Q = bothB n s r m t q x := ⟨_, rfl⟩
  have HK := Lib.hid (show _ ∧ _ from ⟨hP, hQ⟩)
  have HLEN : Hid (P.length ≤ 8 ∧ Q.length ≤ 8) := by rw [hP, hQ]; exact both_lens n s r m t q x
  clear hP hQ
  go_wp2_with fail
  clear a0 a1 a2 b0 b1 b2
  refine (implBothColours_any n s r m t q x _ (by omega) (by omega) (by omega) (by omega)).mono ?_
  rintro e w_2 ⟨vp, vq, rfl, ⟨ho1, ho2, -⟩, hb⟩
  have hbn : Below w_1.heap.size w_1 w_2 := (((Below.refl w_1.heap.size w_1).alloc (by simp) (.cells #[.int .i64 n, .string s, .string r] 24)).alloc (by simp) (.cells #[.int .i64 m, .string t, .string q] 24)).trans (hb.mono (by simp <;> omega))
  have FA_2 := Lib.hid (FA_1.out.below hb (by simp <;> omega))
  have FB_2 := Lib.hid (FB_1.out.below hb (by simp <;> omega))
  have AW_2 : Hid (Below w.heap.size w w_2) := AW_1.out.trans (hbn.mono AW_1.out.size)
  clear hbn AW_1 FA_1 FB_1
  rw [← HK.out.1] at ho1
  rw [← HK.out.2] at ho2
  have FP_2 := Lib.hid (ho1)
  have FQ_2 := Lib.hid (ho2)
  clear ho1 ho2 hb
  obtain ⟨a0, a1, a2⟩ := Box.c FA_2.out
  obtain ⟨b0, b1, b2⟩ := Box.c FB_2.out
  go_wp2_with fail
  clear a0 a1 a2 b0 b1 b2
  refine (specBothColours_any n s r m t q x _ (by omega) (by omega) (by omega) (by omega)).mono ?_
  rintro e w_3 ⟨up, uq, rfl, ⟨ho1, ho2, -⟩, hb⟩
  have hbn := hb
  have FA_3 := Lib.hid (FA_2.out.below hbn FA_2.out.lt)
  have FB_3 := Lib.hid (FB_2.out.below hbn FB_2.out.lt)
  have FP_3 := Lib.hid (FP_2.out.below hbn (Nat.le_refl _))
  have FQ_3 := Lib.hid (FQ_2.out.below hbn (Nat.le_refl _))
  have AW_3 : Hid (Below w.heap.size w w_3) := AW_2.out.trans (hbn.mono AW_2.out.size)
  clear hbn AW_2 FA_2 FB_2 FP_2 FQ_2
  rw [← HK.out.1] at ho1
  rw [← HK.out.2] at ho2
  have FU_3 := Lib.hid (ho1)
  have FV_3 := Lib.hid (ho2)
  clear ho1 ho2 hb
  obtain ⟨ap, cp, hv⟩ := (OwnI.reads FP_3.out).len
  obtain ⟨np, hnp⟩ : ∃ QZ, QZ = P.length := ⟨_, rfl⟩
  rw [← hnp] at hv
  subst hv
  have HNP := Lib.hid hnp
  clear hnp
  go_wp2_with fail
  refine (gsSame_same _ _ P _ (OwnI.reads FP_3.out) (RB.reads FU_3.out) (by have := HLEN.out; omega)).mono ?_
  rintro e w_4 ⟨rfl, hb⟩
  have hbn := hb
  have FA_4 := Lib.hid (FA_3.out.below hbn FA_3.out.lt)
  have FB_4 := Lib.hid (FB_3.out.below hbn FB_3.out.lt)
  have FP_4 := Lib.hid (FP_3.out.below hbn (Nat.le_refl _))
  have FQ_4 := Lib.hid (FQ_3.out.below hbn (Nat.le_refl _))
  have FU_4 := Lib.hid (FU_3.out.below hbn (Nat.le_refl _))
  have FV_4 := Lib.hid (FV_3.out.below hbn (Nat.le_refl _))
  have AW_4 : Hid (Below w.heap.size w w_4) := AW_3.out.trans (hbn.mono AW_3.out.size)
  clear hbn AW_3 FA_3 FB_3 FP_3 FQ_3 FU_3 FV_3
  clear hb
  go_wp2_with fail
  refine (gsSame_same _ _ Q _ (OwnI.reads FQ_4.out) (RB.reads FV_4.out) (by have := HLEN.out; omega)).mono ?_
  rintro e w_5 ⟨rfl, hb⟩
  have hbn := hb
  have FA_5 := Lib.hid (FA_4.out.below hbn FA_4.out.lt)
  have FB_5 := Lib.hid (FB_4.out.below hbn FB_4.out.lt)
  have FP_5 := Lib.hid (FP_4.out.below hbn (Nat.le_refl _))
  have FQ_5 := Lib.hid (FQ_4.out.below hbn (Nat.le_refl _))
  have FU_5 := Lib.hid (FU_4.out.below hbn (Nat.le_refl _))
  have FV_5 := Lib.hid (FV_4.out.below hbn (Nat.le_refl _))
  have AW_5 : Hid (Below w.heap.size w w_5) := AW_4.out.trans (hbn.mono AW_4.out.size)
  clear hbn AW_4 FA_4 FB_4 FP_4 FQ_4 FU_4 FV_4
  clear hb
  by_cases h0 : np = 0
  · have t0 : ((np : Int) == 0) = true := by simp [h0]
    clear h0 HK
    go_wp2_with fail
    refine (gsSame_same _ _ P _ (OwnI.reads FP_5.out) (RB.reads FU_5.out) (by have := HLEN.out; omega)).mono ?_
    rintro e w_6 ⟨rfl, hb⟩
    have hbn := hb
    have FA_6 := Lib.hid (FA_5.out.below hbn FA_5.out.lt)
    have FB_6 := Lib.hid (FB_5.out.below hbn FB_5.out.lt)
    have FP_6 := Lib.hid (FP_5.out.below hbn (Nat.le_refl _))
    have FQ_6 := Lib.hid (FQ_5.out.below hbn (Nat.le_refl _))
    have FU_6 := Lib.hid (FU_5.out.below hbn (Nat.le_refl _))
    have FV_6 := Lib.hid (FV_5.out.below hbn (Nat.le_refl _))
    have AW_6 : Hid (Below w.heap.size w w_6) := AW_5.out.trans (hbn.mono AW_5.out.size)
    clear hbn AW_5 FA_5 FB_5 FP_5 FQ_5 FU_5 FV_5
    clear hb
    go_wp2_with fail
    refine (gsSame_same _ _ Q _ (OwnI.reads FQ_6.out) (RB.reads FV_6.out) (by have := HLEN.out; omega)).mono ?_
    rintro e w_7 ⟨rfl, hb⟩
    have hbn := hb
    have FA_7 := Lib.hid (FA_6.out.below hbn FA_6.out.lt)
    have FB_7 := Lib.hid (FB_6.out.below hbn FB_6.out.lt)
    have FP_7 := Lib.hid (FP_6.out.below hbn (Nat.le_refl _))
    have FQ_7 := Lib.hid (FQ_6.out.below hbn (Nat.le_refl _))
    have FU_7 := Lib.hid (FU_6.out.below hbn (Nat.le_refl _))
    have FV_7 := Lib.hid (FV_6.out.below hbn (Nat.le_refl _))
    have AW_7 : Hid (Below w.heap.size w w_7) := AW_6.out.trans (hbn.mono AW_6.out.size)
    clear hbn AW_6 FA_6 FB_6 FP_6 FQ_6 FU_6 FV_6
    clear hb
    go_wp2
    go_ret
    exact ⟨rfl, AW_7.out⟩
  have t0 : ((np : Int) == 0) = false := by simp; omega
  obtain ⟨N, M, R, rfl, rfl, rfl, C, hf⟩ := fact (n := n) (s := s) (r := r) (m := m) (t := t) (q := q) (x := x) (by rw [← HK.out.1]; intro e; have := HNP.out; rw [e] at this; exact h0 this)
  rw [← HK.out.1, ← HK.out.2] at hf
  have HF := Lib.hid hf
  have hN1 := hf.n1
  have hN8 := hf.n8
  have hnN : np = N := by rw [HNP.out]; exact hf.pl
  have HCL : Hid (C.length ≤ 8) := by rw [Hid, hf.cl]; exact hN8
  clear hf h0 HK HNP FU_5 FV_5
  subst hnN
  obtain ⟨gp, hv⟩ : ∃ gp, Value.slice ap np cp = .slice (some ⟨gp, 0, none⟩) np cp := by
    rcases FP_5.out.shape with ⟨h1, h2⟩ | ⟨g, cap, hv⟩
    · have := HF.out.pl; rw [h2] at this; simp at this; omega
    · simp only [Value.slice.injEq] at hv; exact ⟨g, by rw [hv.1]⟩
  have hap := (Value.slice.injEq .. ▸ hv : ap = some ⟨gp, 0, none⟩ ∧ np = np ∧ cp = cp).1
  subst hap
  clear hv

  obtain ⟨a0, a1, a2⟩ := Box.c FA_5.out
  obtain ⟨b0, b1, b2⟩ := Box.c FB_5.out
  go_wp2_with fail
  clear a0 a1 a2 b0 b1 b2
  refine (implColoursOf_any np s r R _ (by omega) (by omega)).mono ?_
  rintro e w_6 ⟨vc, rfl, ho, hb⟩
  have hbn := hb
  have FA_6 := Lib.hid (FA_5.out.below hbn FA_5.out.lt)
  have FB_6 := Lib.hid (FB_5.out.below hbn FB_5.out.lt)
  have FP_6 := Lib.hid (FP_5.out.below hbn (Nat.le_refl _))
  have FQ_6 := Lib.hid (FQ_5.out.below hbn (Nat.le_refl _))
  have AW_6 : Hid (Below w.heap.size w w_6) := AW_5.out.trans (hbn.mono AW_5.out.size)
  clear hbn AW_5 FA_5 FB_5 FP_5 FQ_5
  rw [HF.out.own] at ho
  have FC_6 := Lib.hid (ho)
  clear ho hb
  obtain ⟨gc, cc, hv⟩ : ∃ gc cc, vc = .slice (some ⟨gc, 0, none⟩) np cc := by
    rcases FC_6.out.shape with ⟨_, h2⟩ | ⟨g, cap, hv⟩
    · have := HF.out.cl; rw [h2] at this; simp at this; omega
    · exact ⟨g, cap, by rw [hv, HF.out.cl]⟩
  subst hv
  obtain ⟨BP, FX⟩ : ∃ BL, Hid (OwnI 3 w_6 BL (.slice (some ⟨gp, 0, none⟩) np cp) P) := ⟨_, FP_6.out⟩
  obtain ⟨BQ, FY⟩ : ∃ BL, Hid (OwnI 3 w_6 BL vq Q) := ⟨_, FQ_6.out⟩
  obtain ⟨BC, FZ⟩ : ∃ BL, Hid (OwnI 3 w_6 BL (.slice (some ⟨gc, 0, none⟩) np cc) C) := ⟨_, FC_6.out⟩
  clear FP_6 FQ_6 FC_6
  obtain ⟨a0, a1, a2⟩ := Box.c FA_6.out
  obtain ⟨b0, b1, b2⟩ := Box.c FB_6.out
  go_wp2_with fail
  clear a0 a1 a2 b0 b1 b2
  go_loopw [11] (fun i wr => ∃ X : Nat, X ≤ np ∧ i = .int .i64 X ∧ Below w.heap.size w wr ∧ Box 24 wr w_1.heap.size np s r ∧ Box 24 wr (w_1.heap.size + 1) M t q ∧ OwnI 3 wr BP (.slice (some ⟨gp, 0, none⟩) np cp) P ∧ OwnI 3 wr BQ vq Q ∧ OwnI 3 wr BC (.slice (some ⟨gc, 0, none⟩) np cc) C) (fun i _ => np - (intOf i).toNat)
  case atStart => exact ⟨0, Nat.zero_le _, rfl, AW_6.out, FA_6.out, FB_6.out, FX.out, FY.out, FZ.out⟩
  case round =>
    clear AW_6 FA_6 FB_6 FX FY FZ
    obtain ⟨X, hXN, rfl, hst⟩ := hrel
    have HQ := Lib.hid hst
    clear hst
    obtain ⟨a0, a1, a2⟩ := HQ.out.2.1.c
    by_cases hX : X < np
    · have tX : decide ((X : Int) < (np : Int)) = true := by simp; omega
      go_wp2_with fail
      clear a0 a1 a2
      go_loopw [12] (fun i wr => ∃ Y : Nat, Y ≤ np ∧ i = .int .i64 Y ∧ Below w.heap.size w wr ∧ Box 24 wr w_1.heap.size np s r ∧ Box 24 wr (w_1.heap.size + 1) M t q ∧ OwnI 3 wr BP (.slice (some ⟨gp, 0, none⟩) np cp) P ∧ OwnI 3 wr BQ vq Q ∧ OwnI 3 wr BC (.slice (some ⟨gc, 0, none⟩) np cc) C) (fun i _ => np - (intOf i).toNat)
      case atStart => exact ⟨0, Nat.zero_le _, rfl, HQ.out⟩
      case round =>
        clear HQ
        obtain ⟨Y, hYN, rfl, hst⟩ := hrel
        have HQ := Lib.hid hst
        clear hst
        obtain ⟨a0, a1, a2⟩ := HQ.out.2.1.c
        by_cases hY : Y < np
        · have tY : decide ((Y : Int) < (np : Int)) = true := by simp; omega
          have kx := HQ.out.2.2.2.1.cell X (by have := HF.out.pl; omega)
          have ky := HQ.out.2.2.2.1.cell Y (by have := HF.out.pl; omega)
          have lx := HQ.out.2.2.2.2.2.cell X (by have := HF.out.cl; omega)
          have ly := HQ.out.2.2.2.2.2.cell Y (by have := HF.out.cl; omega)
          have hlt := HF.out.ord.2 X Y (by have := HF.out.pl; omega) (by have := HF.out.pl; omega)
          have heq := HF.out.ord.eq (i := X) (j := Y) (by have := HF.out.pl; omega) (by have := HF.out.pl; omega)
          obtain ⟨px, hpx⟩ : ∃ Z, Z = P.getD X 0 := ⟨_, rfl⟩
          obtain ⟨py, hpy⟩ : ∃ Z, Z = P.getD Y 0 := ⟨_, rfl⟩
          obtain ⟨cx, hcx⟩ : ∃ Z, Z = C.getD X 0 := ⟨_, rfl⟩
          obtain ⟨cy, hcy⟩ : ∃ Z, Z = C.getD Y 0 := ⟨_, rfl⟩
          rw [← hpx] at kx hlt heq
          rw [← hpy] at ky hlt heq
          rw [← hcx] at lx hlt heq
          rw [← hcy] at ly hlt heq
          obtain ⟨z1, hz1⟩ : ∃ z : Bool, (cx == cy) = z := ⟨_, rfl⟩
          obtain ⟨z2, hz2⟩ : ∃ z : Bool, decide (cx < cy) = z := ⟨_, rfl⟩
          have hz3 : (px == py) = z1 := by rw [← hz1]; exact Bool.eq_iff_iff.2 (by simpa using heq)
          have hz4 : decide (px < py) = z2 := by rw [← hz2]; exact decide_eq_decide.2 hlt
          clear hpx hpy hcx hcy hlt heq
          have DD : Below wr.heap.size wr wr.drew := (Below.refl _ _).drew
          have R2 := Lib.hid (show _ ∧ _ ∧ _ ∧ _ ∧ _ ∧ _ from ⟨HQ.out.1.drew, Box.drew HQ.out.2.1, Box.drew HQ.out.2.2.1, HQ.out.2.2.2.1.below DD (Nat.le_refl _), HQ.out.2.2.2.2.1.below DD (Nat.le_refl _), HQ.out.2.2.2.2.2.below DD (Nat.le_refl _)⟩)
          clear DD
          have q0 : ∀ QQ : Wd (fun Z => Z.cell? ⟨gp, X, none⟩ = some (.int .i64 px) ∧ Z.cell? ⟨gp, Y, none⟩ = some (.int .i64 py) ∧ Z.cell? ⟨gc, X, none⟩ = some (.int .i64 cx) ∧ Z.cell? ⟨gc, Y, none⟩ = some (.int .i64 cy)), QQ.w.cell? ⟨gp, X, none⟩ = some (.int .i64 px) := fun QQ => QQ.ok.1
          have q1 : ∀ QQ : Wd (fun Z => Z.cell? ⟨gp, X, none⟩ = some (.int .i64 px) ∧ Z.cell? ⟨gp, Y, none⟩ = some (.int .i64 py) ∧ Z.cell? ⟨gc, X, none⟩ = some (.int .i64 cx) ∧ Z.cell? ⟨gc, Y, none⟩ = some (.int .i64 cy)), QQ.w.cell? ⟨gp, Y, none⟩ = some (.int .i64 py) := fun QQ => QQ.ok.2.1
          have q2 : ∀ QQ : Wd (fun Z => Z.cell? ⟨gp, X, none⟩ = some (.int .i64 px) ∧ Z.cell? ⟨gp, Y, none⟩ = some (.int .i64 py) ∧ Z.cell? ⟨gc, X, none⟩ = some (.int .i64 cx) ∧ Z.cell? ⟨gc, Y, none⟩ = some (.int .i64 cy)), QQ.w.cell? ⟨gc, X, none⟩ = some (.int .i64 cx) := fun QQ => QQ.ok.2.2.1
          have q3 : ∀ QQ : Wd (fun Z => Z.cell? ⟨gp, X, none⟩ = some (.int .i64 px) ∧ Z.cell? ⟨gp, Y, none⟩ = some (.int .i64 py) ∧ Z.cell? ⟨gc, X, none⟩ = some (.int .i64 cx) ∧ Z.cell? ⟨gc, Y, none⟩ = some (.int .i64 cy)), QQ.w.cell? ⟨gc, Y, none⟩ = some (.int .i64 cy) := fun QQ => QQ.ok.2.2.2
          have hne : Nonempty (Wd (fun Z => Z.cell? ⟨gp, X, none⟩ = some (.int .i64 px) ∧ Z.cell? ⟨gp, Y, none⟩ = some (.int .i64 py) ∧ Z.cell? ⟨gc, X, none⟩ = some (.int .i64 cx) ∧ Z.cell? ⟨gc, Y, none⟩ = some (.int .i64 cy))) := ⟨⟨wr, ⟨kx, ky, lx, ly⟩⟩⟩
          go_wp2_with fail
          refine chain (S := (fun Z => Z.cell? ⟨gp, X, none⟩ = some (.int .i64 px) ∧ Z.cell? ⟨gp, Y, none⟩ = some (.int .i64 py) ∧ Z.cell? ⟨gc, X, none⟩ = some (.int .i64 cx) ∧ Z.cell? ⟨gc, Y, none⟩ = some (.int .i64 cy))) [] [true, true, true, true, true, true, true, true, true, true, true, true, true, true, true, true, true, true, true, true, true, true, true, true, true, true, true, true, true, true, true, true, true, true, true, true, true, true, true, true] (by kernel_rfl) (by kernel_rfl) (by kernel_rfl) ⟨kx, ky, lx, ly⟩ ?_
          simp only [wpSegs, pickB, List.dropLast_cons_cons, List.dropLast_singleton, List.getLast?_cons_cons, List.getLast?_singleton, List.toList_toArray, List.getElem?_toArray, List.getElem?_cons_succ, List.getElem?_cons_zero, Option.toList_some]
          repeat (go_big_quiet_step (fail))
          refine wpQuiet_nil ?_
          clear q0 q1 q2 q3 hne
          go_wp2
          go_roundw
          case rel => first | exact ⟨Y + 1, by omega, by go_num, R2.out⟩ | ((repeat apply Exists.intro); exact ⟨⟨Y + 1, by omega, by go_num, R2.out⟩, rfl⟩)
          case measure => simp [intOf]; omega
        · obtain rfl : np = Y := by omega
          go_wp2
          go_roundw
          case rel => exact ⟨X + 1, by omega, by go_num, HQ.out⟩
          case measure => simp [intOf]; omega
    · obtain rfl : np = X := by omega
      have AW_90 := Lib.hid HQ.out.1
      have FA_90 := Lib.hid HQ.out.2.1
      have FB_90 := Lib.hid HQ.out.2.2.1
      have FP_90 := Lib.hid HQ.out.2.2.2.1
      have FQ_90 := Lib.hid HQ.out.2.2.2.2.1
      have FC_90 := Lib.hid HQ.out.2.2.2.2.2
      clear a0 a1 a2 HQ hXN
      obtain ⟨a0, a1, a2⟩ := Box.c FA_90.out
      obtain ⟨b0, b1, b2⟩ := Box.c FB_90.out
      go_wp2_with fail
      clear a0 a1 a2 b0 b1 b2
      refine (implBothColours_any M t q np s r R _ (by omega) (by omega) (by omega) (by omega)).mono ?_
      rintro e w_91 ⟨v1, v2, rfl, ⟨ho1, ho2, -⟩, hb⟩
      have hbn := hb
      have FA_91 := Lib.hid (FA_90.out.below hbn FA_90.out.lt)
      have FB_91 := Lib.hid (FB_90.out.below hbn FB_90.out.lt)
      have FP_91 := Lib.hid (FP_90.out.below hbn (Nat.le_refl _))
      have FQ_91 := Lib.hid (FQ_90.out.below hbn (Nat.le_refl _))
      have FC_91 := Lib.hid (FC_90.out.below hbn (Nat.le_refl _))
      have AW_91 : Hid (Below w.heap.size w w_91) := AW_90.out.trans (hbn.mono AW_90.out.size)
      clear hbn AW_90 FA_90 FB_90 FP_90 FQ_90 FC_90
      rw [HF.out.swA] at ho1
      rw [HF.out.swB] at ho2
      have FG_91 := Lib.hid (ho1)
      have FH_91 := Lib.hid (ho2)
      clear ho1 ho2 hb
      obtain ⟨a0, a1, a2⟩ := Box.c FA_91.out
      go_wp2_with fail
      clear a0 a1 a2
      refine (implBothColours_any np s r np s r R _ (by omega) (by omega) (by omega) (by omega)).mono ?_
      rintro e w_92 ⟨v3, v4, rfl, ⟨ho1, ho2, -⟩, hb⟩
      have hbn := hb
      have FA_92 := Lib.hid (FA_91.out.below hbn FA_91.out.lt)
      have FB_92 := Lib.hid (FB_91.out.below hbn FB_91.out.lt)
      have FP_92 := Lib.hid (FP_91.out.below hbn (Nat.le_refl _))
      have FQ_92 := Lib.hid (FQ_91.out.below hbn (Nat.le_refl _))
      have FC_92 := Lib.hid (FC_91.out.below hbn (Nat.le_refl _))
      have FG_92 := Lib.hid (FG_91.out.below hbn (Nat.le_refl _))
      have FH_92 := Lib.hid (FH_91.out.below hbn (Nat.le_refl _))
      have AW_92 : Hid (Below w.heap.size w w_92) := AW_91.out.trans (hbn.mono AW_91.out.size)
      clear hbn AW_91 FA_91 FB_91 FP_91 FQ_91 FC_91 FG_91 FH_91
      rw [HF.out.seA] at ho1
      rw [HF.out.seB] at ho2
      have FI_92 := Lib.hid (ho1)
      have FJ_92 := Lib.hid (ho2)
      clear ho1 ho2 hb
      go_wp2_with fail
      refine (gsSame_same _ _ Q _ (OwnI.reads FG_92.out) (OwnI.reads FQ_92.out) (by have := HLEN.out; omega)).mono ?_
      rintro e w_93 ⟨rfl, hb⟩
      have hbn := hb
      have FA_93 := Lib.hid (FA_92.out.below hbn FA_92.out.lt)
      have FB_93 := Lib.hid (FB_92.out.below hbn FB_92.out.lt)
      have FP_93 := Lib.hid (FP_92.out.below hbn (Nat.le_refl _))
      have FQ_93 := Lib.hid (FQ_92.out.below hbn (Nat.le_refl _))
      have FC_93 := Lib.hid (FC_92.out.below hbn (Nat.le_refl _))
      have FG_93 := Lib.hid (FG_92.out.below hbn (Nat.le_refl _))
      have FH_93 := Lib.hid (FH_92.out.below hbn (Nat.le_refl _))
      have FI_93 := Lib.hid (FI_92.out.below hbn (Nat.le_refl _))
      have FJ_93 := Lib.hid (FJ_92.out.below hbn (Nat.le_refl _))
      have AW_93 : Hid (Below w.heap.size w w_93) := AW_92.out.trans (hbn.mono AW_92.out.size)
      clear hbn AW_92 FA_92 FB_92 FP_92 FQ_92 FC_92 FG_92 FH_92 FI_92 FJ_92
      clear hb
      go_wp2_with fail
      refine (gsSame_same _ _ P _ (OwnI.reads FH_93.out) (OwnI.reads FP_93.out) (by have := HLEN.out; omega)).mono ?_
      rintro e w_94 ⟨rfl, hb⟩
      have hbn := hb
      have FA_94 := Lib.hid (FA_93.out.below hbn FA_93.out.lt)
      have FB_94 := Lib.hid (FB_93.out.below hbn FB_93.out.lt)
      have FP_94 := Lib.hid (FP_93.out.below hbn (Nat.le_refl _))
      have FQ_94 := Lib.hid (FQ_93.out.below hbn (Nat.le_refl _))
      have FC_94 := Lib.hid (FC_93.out.below hbn (Nat.le_refl _))
      have FG_94 := Lib.hid (FG_93.out.below hbn (Nat.le_refl _))
      have FH_94 := Lib.hid (FH_93.out.below hbn (Nat.le_refl _))
      have FI_94 := Lib.hid (FI_93.out.below hbn (Nat.le_refl _))
      have FJ_94 := Lib.hid (FJ_93.out.below hbn (Nat.le_refl _))
      have AW_94 : Hid (Below w.heap.size w w_94) := AW_93.out.trans (hbn.mono AW_93.out.size)
      clear hbn AW_93 FA_93 FB_93 FP_93 FQ_93 FC_93 FG_93 FH_93 FI_93 FJ_93
      clear hb
      go_wp2_with fail
      refine (gsSame_same _ _ C _ (OwnI.reads FI_94.out) (OwnI.reads FJ_94.out) (by have := HCL.out; omega)).mono ?_
      rintro e w_95 ⟨rfl, hb⟩
      have hbn := hb
      have FA_95 := Lib.hid (FA_94.out.below hbn FA_94.out.lt)
      have FB_95 := Lib.hid (FB_94.out.below hbn FB_94.out.lt)
      have FP_95 := Lib.hid (FP_94.out.below hbn (Nat.le_refl _))
      have FQ_95 := Lib.hid (FQ_94.out.below hbn (Nat.le_refl _))
      have FC_95 := Lib.hid (FC_94.out.below hbn (Nat.le_refl _))
      have FG_95 := Lib.hid (FG_94.out.below hbn (Nat.le_refl _))
      have FH_95 := Lib.hid (FH_94.out.below hbn (Nat.le_refl _))
      have FI_95 := Lib.hid (FI_94.out.below hbn (Nat.le_refl _))
      have FJ_95 := Lib.hid (FJ_94.out.below hbn (Nat.le_refl _))
      have AW_95 : Hid (Below w.heap.size w w_95) := AW_94.out.trans (hbn.mono AW_94.out.size)
      clear hbn AW_94 FA_94 FB_94 FP_94 FQ_94 FC_94 FG_94 FH_94 FI_94 FJ_94
      clear hb
      go_wp2_with fail
      refine (gsSame_same _ _ C _ (OwnI.reads FI_95.out) (OwnI.reads FC_95.out) (by have := HCL.out; omega)).mono ?_
      rintro e w_96 ⟨rfl, hb⟩
      have hbn := hb
      have FA_96 := Lib.hid (FA_95.out.below hbn FA_95.out.lt)
      have FB_96 := Lib.hid (FB_95.out.below hbn FB_95.out.lt)
      have FP_96 := Lib.hid (FP_95.out.below hbn (Nat.le_refl _))
      have FQ_96 := Lib.hid (FQ_95.out.below hbn (Nat.le_refl _))
      have FC_96 := Lib.hid (FC_95.out.below hbn (Nat.le_refl _))
      have FG_96 := Lib.hid (FG_95.out.below hbn (Nat.le_refl _))
      have FH_96 := Lib.hid (FH_95.out.below hbn (Nat.le_refl _))
      have FI_96 := Lib.hid (FI_95.out.below hbn (Nat.le_refl _))
      have FJ_96 := Lib.hid (FJ_95.out.below hbn (Nat.le_refl _))
      have AW_96 : Hid (Below w.heap.size w w_96) := AW_95.out.trans (hbn.mono AW_95.out.size)
      clear hbn AW_95 FA_95 FB_95 FP_95 FQ_95 FC_95 FG_95 FH_95 FI_95 FJ_95
      clear hb
      go_wp2
      go_ret
      exact ⟨rfl, AW_96.out⟩
end Go.Proofs.YtglehegjimhbjaaGreatDoor.fnBothColoursW
