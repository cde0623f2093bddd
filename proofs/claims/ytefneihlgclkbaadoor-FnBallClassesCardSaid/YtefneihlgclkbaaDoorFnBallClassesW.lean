/- FnBallClasses: the walk. -/
import Derived.Test.YtefneihlgclkbaaDoorDrawI
import Derived.Test.YtefneihlgclkbaaDoorBcl
import Derived.Test.YtefneihlgclkbaaDoorGs
import Derived.Test.YtefneihlgclkbaaDoorRow
namespace Go.Proofs.YtefneihlgclkbaaDoor.fnBallClassesW
set_option linter.unusedVariables false
set_option linter.unusedSimpArgs false
open Go.ChangeShapes Go.WideShapes Go.ChangeAt Go.RowKit
open Go.Proofs.YtefneihlgclkbaaDoor.flow Go.Proofs.YtefneihlgclkbaaDoor.lib Go.Proofs.YtefneihlgclkbaaDoor.st Go.Proofs.YtefneihlgclkbaaDoor.draw Go.Proofs.YtefneihlgclkbaaDoor.base Go.Proofs.YtefneihlgclkbaaDoor.chain Go.Proofs.YtefneihlgclkbaaDoor.gs Go.Proofs.YtefneihlgclkbaaDoor.sbc Go.Proofs.YtefneihlgclkbaaDoor.same Go.Proofs.YtefneihlgclkbaaDoor.bcl
/-- bytes that came in may be drawn from -/
theorem byt_of_row {w : World} {a : Option Addr} {n c : Nat} {zs : List Int} (h : row.IsRow .u8 w a n c zs) : Byt w w.heap.size a n ∧ n ≤ c ∧ c ≤ 9223372036854775807 := by
  rcases h with ⟨rfl, rfl, rfl, rfl⟩ | ⟨x, rfl, hl, hm, hz, hcell, hwf⟩
  · exact ⟨.inl rfl, Nat.le_refl _, by omega⟩
  · refine ⟨?_, hl, hm⟩
    by_cases h0 : n = 0
    · exact .inl h0
    · obtain ⟨b, off, spot⟩ := x
      have hc := hcell 0 (by omega)
      have hspot : spot = none := by simpa [Addr.add] using World.cell?_spot hc
      subst hspot
      have hlt := World.block_lt_of_cell? w _ hc
      refine .inr ⟨b, off, rfl, by simpa [Addr.add] using hlt, fun i hi => ?_⟩
      have hci := hcell i (by omega)
      have hw := hwf (zs.getD i 0) (by rw [List.getD_eq_getElem?_getD, List.getElem?_eq_getElem (by omega)]; exact List.getElem_mem _)
      have hb : 0 ≤ zs.getD i 0 ∧ zs.getD i 0 ≤ 255 := by
        generalize zs.getD i 0 = z at hw ⊢
        simp only [Lit.wf, IntKind.min, IntKind.max, IntKind.signed, IntKind.bits, Bool.and_eq_true, decide_eq_true_eq] at hw
        simp at hw
        omega
      refine ⟨(zs.getD i 0).toNat, by omega, ?_⟩
      rw [show (⟨b, off, none⟩ : Addr).add i = ⟨b, off + i, none⟩ from by simp only [Addr.add]; split <;> simp [*]] at hci
      rw [hci, show (((zs.getD i 0).toNat : Nat) : Int) = zs.getD i 0 from by omega]

set_option maxHeartbeats 40000000 in
set_option maxRecDepth 100000 in
theorem walk (a0 : Option Addr) (n0 c0 : Nat) (l0 : List Int) (w : World) (h0 : row.IsRow .u8 w a0 n0 c0 l0) :
    Calls Tryd.prog 8 #[.slice a0 n0 c0] w fun e w' => e = .returned (.bool true) ∧ Below w.heap.size w w' := by
  obtain ⟨by0, nc0, cm0⟩ := byt_of_row h0
  have BY0 := Lib.hid by0
  clear by0 h0
  by_cases hg0 : 1048576 < n0
  · go_enter Tryd.func8, Tryd.ntmps8
    go_wp2
    go_ret
    exact ⟨rfl, Below.refl _ _⟩
  go_enter Tryd.func8, Tryd.ntmps8
  have AW_0 : Hid (Below w.heap.size w w) := Below.refl _ _
  go_wp2_with fail
  refine (drawClasses_any a0 n0 c0 _ BY0.out nc0 cm0).mono ?_
  rintro e w_1 ⟨n, s, r, x, rfl, hnw, hs, hr, hxw, hb⟩
  have hbn := hb
  have AW_1 : Hid (Below w.heap.size w w_1) := AW_0.out.trans (hbn.mono AW_0.out.size)
  clear hbn AW_0 
  have FA_1 : Hid (Box 24 (w_1.alloc (.cells #[.int .i64 n, .string s, .string r] 24)) (w_1.heap.size) n s r) := Box.new _ w_1 (w_1.heap.size) (by simp) _ _ _
  obtain ⟨a0, a1, a2⟩ := Box.c FA_1.out
  clear hb hnw hxw
  obtain ⟨P, hP⟩ : ∃ P, P = classR n s r x := ⟨_, rfl⟩
  have HK := Lib.hid hP
  have HLEN : Hid (P.length ≤ 4194304) := by rw [hP]; exact len0 n s r x (by omega)
  clear hP
  go_wp2_with fail
  clear a0 a1 a2
  refine (implClasses_any n s r x _ (by omega) (by omega)).mono ?_
  rintro e w_2 ⟨vp, rfl, ho, hb⟩
  have hbn : Below w_1.heap.size w_1 w_2 := ((Below.refl w_1.heap.size w_1).alloc (by simp) (.cells #[.int .i64 n, .string s, .string r] 24)).trans (hb.mono (by simp))
  have FA_2 := Lib.hid (FA_1.out.below hb (by simp))
  have AW_2 : Hid (Below w.heap.size w w_2) := AW_1.out.trans (hbn.mono AW_1.out.size)
  clear hbn AW_1 FA_1
  rw [← HK.out] at ho
  have FP_2 := Lib.hid (ho)
  clear ho hb
  obtain ⟨a0, a1, a2⟩ := Box.c FA_2.out
  go_wp2_with fail
  clear a0 a1 a2
  refine (specClasses_any n s r x _ (by omega) (by omega)).mono ?_
  rintro e w_3 ⟨up, rfl, ho, hb⟩
  have hbn := hb
  have FA_3 := Lib.hid (FA_2.out.below hbn FA_2.out.lt)
  have FP_3 := Lib.hid (FP_2.out.below hbn (Nat.le_refl _))
  have AW_3 : Hid (Below w.heap.size w w_3) := AW_2.out.trans (hbn.mono AW_2.out.size)
  clear hbn AW_2 FA_2 FP_2
  rw [← HK.out] at ho
  have FU_3 := Lib.hid (ho)
  clear ho hb
  obtain ⟨a0, a1, a2⟩ := Box.c FA_3.out
  obtain ⟨ap, cp, hv⟩ := (OwnI.reads FP_3.out).len
  obtain ⟨np, hnp⟩ : ∃ QZ, QZ = P.length := ⟨_, rfl⟩
  rw [← hnp] at hv
  subst hv
  have HNP := Lib.hid hnp
  clear hnp
  go_wp2_with fail
  clear a0 a1 a2
  refine (gsSame_same _ _ P _ (OwnI.reads FP_3.out) (OwnI.reads FU_3.out) (by have := HLEN.out; omega)).mono ?_
  rintro e w_4 ⟨rfl, hb⟩
  have hbn := hb
  have FA_4 := Lib.hid (FA_3.out.below hbn FA_3.out.lt)
  have FP_4 := Lib.hid (FP_3.out.below hbn (Nat.le_refl _))
  have FU_4 := Lib.hid (FU_3.out.below hbn (Nat.le_refl _))
  have AW_4 : Hid (Below w.heap.size w w_4) := AW_3.out.trans (hbn.mono AW_3.out.size)
  clear hbn AW_3 FA_3 FP_3 FU_3
  clear hb
  by_cases h0 : np = 0
  · have t0 : ((np : Int) == 0) = true := by simp [h0]
    clear h0
    obtain ⟨a0, a1, a2⟩ := Box.c FA_4.out
    go_wp2_with fail
    clear a0 a1 a2
    refine (specClasses_any n s r x _ (by omega) (by omega)).mono ?_
    rintro e w_5 ⟨uq, rfl, ho, hb⟩
    have hbn := hb
    have FA_5 := Lib.hid (FA_4.out.below hbn FA_4.out.lt)
    have FP_5 := Lib.hid (FP_4.out.below hbn (Nat.le_refl _))
    have FU_5 := Lib.hid (FU_4.out.below hbn (Nat.le_refl _))
    have AW_5 : Hid (Below w.heap.size w w_5) := AW_4.out.trans (hbn.mono AW_4.out.size)
    clear hbn AW_4 FA_4 FP_4 FU_4
    rw [← HK.out] at ho
    have FZ_5 := Lib.hid (ho)
    clear ho hb
    go_wp2_with fail
    refine (gsSame_same _ _ P _ (OwnI.reads FP_5.out) (OwnI.reads FZ_5.out) (by have := HLEN.out; omega)).mono ?_
    rintro e w_6 ⟨rfl, hb⟩
    have hbn := hb
    have FA_6 := Lib.hid (FA_5.out.below hbn FA_5.out.lt)
    have FP_6 := Lib.hid (FP_5.out.below hbn (Nat.le_refl _))
    have FU_6 := Lib.hid (FU_5.out.below hbn (Nat.le_refl _))
    have FZ_6 := Lib.hid (FZ_5.out.below hbn (Nat.le_refl _))
    have AW_6 : Hid (Below w.heap.size w w_6) := AW_5.out.trans (hbn.mono AW_5.out.size)
    clear hbn AW_5 FA_5 FP_5 FU_5 FZ_5
    clear hb
    go_wp2
    go_ret
    exact ⟨rfl, AW_6.out⟩
  have t0 : ((np : Int) == 0) = false := by simp; omega
  obtain ⟨N, R, rfl, rfl, Q, hf⟩ := fact (n := n) (s := s) (r := r) (x := x) (by rw [← HK.out]; intro e; have := HNP.out; rw [e] at this; exact h0 this)
  rw [← HK.out] at hf
  have HF := Lib.hid hf
  have hN1 := hf.n1
  have hN8 := hf.n8
  have hR := hf.k
  have hnN : np = N := by rw [HNP.out]; exact hf.pl
  clear hf h0 HK HNP FU_4
  subst hnN
  obtain ⟨gp, hv⟩ : ∃ gp, Value.slice ap np cp = .slice (some ⟨gp, 0, none⟩) np cp := by
    rcases FP_4.out.shape with ⟨h1, h2⟩ | ⟨g, cap, hv⟩
    · have := HF.out.pl; rw [h2] at this; simp at this; omega
    · simp only [Value.slice.injEq] at hv; exact ⟨g, by rw [hv.1]⟩
  have hap := (Value.slice.injEq .. ▸ hv : ap = some ⟨gp, 0, none⟩ ∧ np = np ∧ cp = cp).1
  subst hap
  clear hv
  obtain ⟨nr, hnr⟩ : ∃ z : Int, z = min ((R : Int) + 1) 100 := ⟨_, rfl⟩
  have HNX : Hid (classR np s r nr = Q) := by rw [Hid, hnr]; exact HF.out.nx
  have HNR := Lib.hid hnr
  clear hnr
  obtain ⟨a0, a1, a2⟩ := Box.c FA_4.out

  go_wp2_with fail
  clear a0 a1 a2
  refine (implClasses_any np s r (min ((R : Int) + 1) 100) _ (by omega) (by omega)).mono ?_
  rintro e w_5 ⟨vc, rfl, ho, hb⟩
  have hbn := hb
  have FA_5 := Lib.hid (FA_4.out.below hbn FA_4.out.lt)
  have FP_5 := Lib.hid (FP_4.out.below hbn (Nat.le_refl _))
  have AW_5 : Hid (Below w.heap.size w w_5) := AW_4.out.trans (hbn.mono AW_4.out.size)
  clear hbn AW_4 FA_4 FP_4
  rw [← HNR.out, HNX.out] at ho
  have FC_5 := Lib.hid (ho)
  clear ho hb HNR HNX nr
  obtain ⟨gc, cc, hv⟩ : ∃ gc cc, vc = .slice (some ⟨gc, 0, none⟩) np cc := by
    rcases FC_5.out.shape with ⟨_, h2⟩ | ⟨g, cap, hv⟩
    · have := HF.out.ql; rw [h2] at this; simp at this; omega
    · exact ⟨g, cap, by rw [hv, HF.out.ql]⟩
  subst hv
  obtain ⟨BP, FX⟩ : ∃ BL, Hid (OwnI 3 w_5 BL (.slice (some ⟨gp, 0, none⟩) np cp) P) := ⟨_, FP_5.out⟩
  obtain ⟨BC, FZ⟩ : ∃ BL, Hid (OwnI 3 w_5 BL (.slice (some ⟨gc, 0, none⟩) np cc) Q) := ⟨_, FC_5.out⟩
  clear FP_5 FC_5
  obtain ⟨a0, a1, a2⟩ := Box.c FA_5.out
  go_wp2_with fail
  clear a0 a1 a2
  go_loopw [7] (fun i wr => ∃ X : Nat, X ≤ np ∧ i = .int .i64 X ∧ Below w.heap.size w wr ∧ Box 24 wr w_1.heap.size np s r ∧ OwnI 3 wr BP (.slice (some ⟨gp, 0, none⟩) np cp) P ∧ OwnI 3 wr BC (.slice (some ⟨gc, 0, none⟩) np cc) Q) (fun i _ => np - (intOf i).toNat)
  case atStart => exact ⟨0, Nat.zero_le _, rfl, AW_5.out, FA_5.out, FX.out, FZ.out⟩
  case round =>
    clear AW_5 FA_5 FX FZ
    obtain ⟨X, hXN, rfl, hst⟩ := hrel
    have HQ := Lib.hid hst
    clear hst
    obtain ⟨a0, a1, a2⟩ := HQ.out.2.1.c
    by_cases hX : X < np
    · have tX : decide ((X : Int) < (np : Int)) = true := by simp; omega
      go_wp2_with fail
      clear a0 a1 a2
      go_loopw [8] (fun i wr => ∃ Y : Nat, Y ≤ np ∧ i = .int .i64 Y ∧ Below w.heap.size w wr ∧ Box 24 wr w_1.heap.size np s r ∧ OwnI 3 wr BP (.slice (some ⟨gp, 0, none⟩) np cp) P ∧ OwnI 3 wr BC (.slice (some ⟨gc, 0, none⟩) np cc) Q) (fun i _ => np - (intOf i).toNat)
      case atStart => exact ⟨0, Nat.zero_le _, rfl, HQ.out⟩
      case round =>
        clear HQ
        obtain ⟨Y, hYN, rfl, hst⟩ := hrel
        have HQ := Lib.hid hst
        clear hst
        obtain ⟨a0, a1, a2⟩ := HQ.out.2.1.c
        by_cases hY : Y < np
        · have tY : decide ((Y : Int) < (np : Int)) = true := by simp; omega
          have kx := HQ.out.2.2.1.cell X (by have := HF.out.pl; omega)
          have ky := HQ.out.2.2.1.cell Y (by have := HF.out.pl; omega)
          have lx := HQ.out.2.2.2.cell X (by have := HF.out.ql; omega)
          have ly := HQ.out.2.2.2.cell Y (by have := HF.out.ql; omega)
          have hsb := HF.out.eq X Y (by have := HF.out.pl; omega) (by have := HF.out.pl; omega)
          have hbk := HF.out.back X Y (by have := HF.out.pl; omega) (by have := HF.out.pl; omega)
          obtain ⟨px, hpx⟩ : ∃ Z, P.getD X 0 = Z := ⟨_, rfl⟩
          obtain ⟨py, hpy⟩ : ∃ Z, P.getD Y 0 = Z := ⟨_, rfl⟩
          obtain ⟨cx, hcx⟩ : ∃ Z, Q.getD X 0 = Z := ⟨_, rfl⟩
          obtain ⟨cy, hcy⟩ : ∃ Z, Q.getD Y 0 = Z := ⟨_, rfl⟩
          rw [hpx] at kx hsb hbk
          rw [hpy] at ky hsb hbk
          rw [hcx] at lx hbk
          rw [hcy] at ly hbk
          have HPX := Lib.hid hpx
          have HPY := Lib.hid hpy
          have HCX := Lib.hid hcx
          have HCY := Lib.hid hcy
          obtain ⟨z1, hz1⟩ : ∃ z : Bool, (px == py) = z := ⟨_, rfl⟩
          obtain ⟨z2, hz2⟩ : ∃ z : Bool, (cx == cy) = z := ⟨_, rfl⟩
          obtain ⟨z3, hz3⟩ : ∃ z : Bool, (px != py) = z := ⟨_, rfl⟩
          have hz4 : z3 = !z1 := by rw [← hz3, ← hz1]; rfl
          have HBK : Hid (z2 = true → z1 = true) := fun e => by
            rw [← hz2] at e
            rw [← hz1]
            exact beq_iff_eq.2 (hbk (beq_iff_eq.1 e))
          have HSB : Hid (sameR np s r X np s r Y R = z1) := by rw [Hid, hsb, hz1]
          clear hpx hpy hcx hcy hsb hbk
          subst hz4
          cases z1
          · have hz5 : z2 = false := by cases z2 <;> first | rfl | exact absurd (HBK.out rfl) (by decide)
            subst hz5
            clear HBK
            have D : Hid (Below w.heap.size w wr.drew ∧ Box 24 wr.drew w_1.heap.size np s r ∧ OwnI 3 wr.drew BP (.slice (some ⟨gp, 0, none⟩) np cp) P ∧ OwnI 3 wr.drew BC (.slice (some ⟨gc, 0, none⟩) np cc) Q) := ⟨HQ.out.1.drew, Box.drew HQ.out.2.1, HQ.out.2.2.1.below ((Below.refl _ _).drew) (Nat.le_refl _), HQ.out.2.2.2.below ((Below.refl _ _).drew) (Nat.le_refl _)⟩
            have q0 : ∀ QQ : Wd (fun Z => Z.cell? ⟨gp, X, none⟩ = some (.int .i64 px) ∧ Z.cell? ⟨gp, Y, none⟩ = some (.int .i64 py) ∧ Z.cell? ⟨gc, X, none⟩ = some (.int .i64 cx) ∧ Z.cell? ⟨gc, Y, none⟩ = some (.int .i64 cy) ∧ Z.cell? ⟨w_1.heap.size, 0, none⟩ = some (.int .i64 np) ∧ Z.cell? ⟨w_1.heap.size, 1, none⟩ = some (.string s) ∧ Z.cell? ⟨w_1.heap.size, 2, none⟩ = some (.string r)), QQ.w.cell? ⟨gp, X, none⟩ = some (.int .i64 px) := fun QQ => QQ.ok.1
            have q1 : ∀ QQ : Wd (fun Z => Z.cell? ⟨gp, X, none⟩ = some (.int .i64 px) ∧ Z.cell? ⟨gp, Y, none⟩ = some (.int .i64 py) ∧ Z.cell? ⟨gc, X, none⟩ = some (.int .i64 cx) ∧ Z.cell? ⟨gc, Y, none⟩ = some (.int .i64 cy) ∧ Z.cell? ⟨w_1.heap.size, 0, none⟩ = some (.int .i64 np) ∧ Z.cell? ⟨w_1.heap.size, 1, none⟩ = some (.string s) ∧ Z.cell? ⟨w_1.heap.size, 2, none⟩ = some (.string r)), QQ.w.cell? ⟨gp, Y, none⟩ = some (.int .i64 py) := fun QQ => QQ.ok.2.1
            have q2 : ∀ QQ : Wd (fun Z => Z.cell? ⟨gp, X, none⟩ = some (.int .i64 px) ∧ Z.cell? ⟨gp, Y, none⟩ = some (.int .i64 py) ∧ Z.cell? ⟨gc, X, none⟩ = some (.int .i64 cx) ∧ Z.cell? ⟨gc, Y, none⟩ = some (.int .i64 cy) ∧ Z.cell? ⟨w_1.heap.size, 0, none⟩ = some (.int .i64 np) ∧ Z.cell? ⟨w_1.heap.size, 1, none⟩ = some (.string s) ∧ Z.cell? ⟨w_1.heap.size, 2, none⟩ = some (.string r)), QQ.w.cell? ⟨gc, X, none⟩ = some (.int .i64 cx) := fun QQ => QQ.ok.2.2.1
            have q3 : ∀ QQ : Wd (fun Z => Z.cell? ⟨gp, X, none⟩ = some (.int .i64 px) ∧ Z.cell? ⟨gp, Y, none⟩ = some (.int .i64 py) ∧ Z.cell? ⟨gc, X, none⟩ = some (.int .i64 cx) ∧ Z.cell? ⟨gc, Y, none⟩ = some (.int .i64 cy) ∧ Z.cell? ⟨w_1.heap.size, 0, none⟩ = some (.int .i64 np) ∧ Z.cell? ⟨w_1.heap.size, 1, none⟩ = some (.string s) ∧ Z.cell? ⟨w_1.heap.size, 2, none⟩ = some (.string r)), QQ.w.cell? ⟨gc, Y, none⟩ = some (.int .i64 cy) := fun QQ => QQ.ok.2.2.2.1
            have q4 : ∀ QQ : Wd (fun Z => Z.cell? ⟨gp, X, none⟩ = some (.int .i64 px) ∧ Z.cell? ⟨gp, Y, none⟩ = some (.int .i64 py) ∧ Z.cell? ⟨gc, X, none⟩ = some (.int .i64 cx) ∧ Z.cell? ⟨gc, Y, none⟩ = some (.int .i64 cy) ∧ Z.cell? ⟨w_1.heap.size, 0, none⟩ = some (.int .i64 np) ∧ Z.cell? ⟨w_1.heap.size, 1, none⟩ = some (.string s) ∧ Z.cell? ⟨w_1.heap.size, 2, none⟩ = some (.string r)), QQ.w.cell? ⟨w_1.heap.size, 0, none⟩ = some (.int .i64 np) := fun QQ => QQ.ok.2.2.2.2.1
            have q5 : ∀ QQ : Wd (fun Z => Z.cell? ⟨gp, X, none⟩ = some (.int .i64 px) ∧ Z.cell? ⟨gp, Y, none⟩ = some (.int .i64 py) ∧ Z.cell? ⟨gc, X, none⟩ = some (.int .i64 cx) ∧ Z.cell? ⟨gc, Y, none⟩ = some (.int .i64 cy) ∧ Z.cell? ⟨w_1.heap.size, 0, none⟩ = some (.int .i64 np) ∧ Z.cell? ⟨w_1.heap.size, 1, none⟩ = some (.string s) ∧ Z.cell? ⟨w_1.heap.size, 2, none⟩ = some (.string r)), QQ.w.cell? ⟨w_1.heap.size, 1, none⟩ = some (.string s) := fun QQ => QQ.ok.2.2.2.2.2.1
            have q6 : ∀ QQ : Wd (fun Z => Z.cell? ⟨gp, X, none⟩ = some (.int .i64 px) ∧ Z.cell? ⟨gp, Y, none⟩ = some (.int .i64 py) ∧ Z.cell? ⟨gc, X, none⟩ = some (.int .i64 cx) ∧ Z.cell? ⟨gc, Y, none⟩ = some (.int .i64 cy) ∧ Z.cell? ⟨w_1.heap.size, 0, none⟩ = some (.int .i64 np) ∧ Z.cell? ⟨w_1.heap.size, 1, none⟩ = some (.string s) ∧ Z.cell? ⟨w_1.heap.size, 2, none⟩ = some (.string r)), QQ.w.cell? ⟨w_1.heap.size, 2, none⟩ = some (.string r) := fun QQ => QQ.ok.2.2.2.2.2.2
            have hne : Nonempty (Wd (fun Z => Z.cell? ⟨gp, X, none⟩ = some (.int .i64 px) ∧ Z.cell? ⟨gp, Y, none⟩ = some (.int .i64 py) ∧ Z.cell? ⟨gc, X, none⟩ = some (.int .i64 cx) ∧ Z.cell? ⟨gc, Y, none⟩ = some (.int .i64 cy) ∧ Z.cell? ⟨w_1.heap.size, 0, none⟩ = some (.int .i64 np) ∧ Z.cell? ⟨w_1.heap.size, 1, none⟩ = some (.string s) ∧ Z.cell? ⟨w_1.heap.size, 2, none⟩ = some (.string r))) := ⟨⟨wr, ⟨kx, ky, lx, ly, a0, a1, a2⟩⟩⟩
            go_wp2_with fail
            refine chain (S := (fun Z => Z.cell? ⟨gp, X, none⟩ = some (.int .i64 px) ∧ Z.cell? ⟨gp, Y, none⟩ = some (.int .i64 py) ∧ Z.cell? ⟨gc, X, none⟩ = some (.int .i64 cx) ∧ Z.cell? ⟨gc, Y, none⟩ = some (.int .i64 cy) ∧ Z.cell? ⟨w_1.heap.size, 0, none⟩ = some (.int .i64 np) ∧ Z.cell? ⟨w_1.heap.size, 1, none⟩ = some (.string s) ∧ Z.cell? ⟨w_1.heap.size, 2, none⟩ = some (.string r))) [([true, true, true, true, true, true, true, true, true, true, true, true, true, true], 14)] [false, false, false, false, false, false, false, false, false, false, false, false, false, false, false, true, true, true, true, true, true, true, true, true, true, true, true, true, true, true, true, true, true, true, true, true, true, true] (by kernel_rfl) (by kernel_rfl) (by kernel_rfl) ⟨kx, ky, lx, ly, a0, a1, a2⟩ ?_
            simp only [wpSegs, pickB, List.dropLast_cons_cons, List.dropLast_singleton, List.getLast?_cons_cons, List.getLast?_singleton, List.toList_toArray, List.getElem?_toArray, List.getElem?_cons_succ, List.getElem?_cons_zero, Option.toList_some]
            repeat (go_big_quiet_step (fail))
            refine wpQuiet_nil ?_
            intro K hK
            go_wp2_with fail
            refine (implSameBall_any np s r X np s r Y R _ (by omega) (by omega) (by omega) (by omega)).mono ?_
            rintro er w7 ⟨rfl, hb⟩
            rw [HSB.out]
            have R2 := Lib.hid (show _ ∧ _ ∧ _ ∧ _ from ⟨D.out.1.trans (hb.mono D.out.1.size), D.out.2.1.below hb D.out.2.1.lt, D.out.2.2.1.below hb (Nat.le_refl _), D.out.2.2.2.below hb (Nat.le_refl _)⟩)
            have r1 := R2.out.2.2.1.cell X (by have := HF.out.pl; omega)
            have r2 := R2.out.2.2.1.cell Y (by have := HF.out.pl; omega)
            have r3 := R2.out.2.2.2.cell X (by have := HF.out.ql; omega)
            have r4 := R2.out.2.2.2.cell Y (by have := HF.out.ql; omega)
            obtain ⟨r5, r6, r7⟩ := R2.out.2.1.c
            rw [HPX.out] at r1
            rw [HPY.out] at r2
            rw [HCX.out] at r3
            rw [HCY.out] at r4
            clear hb
            go_wp2_with fail
            refine hK _ _ ⟨r1, r2, r3, r4, r5, r6, r7⟩ ?_
            clear hK K
            repeat (go_big_quiet_step (fail))
            refine wpQuiet_nil ?_
            clear q0 q1 q2 q3 q4 q5 q6 hne D
            go_wp2
            go_roundw
            case rel => first | exact ⟨Y + 1, by omega, by go_num, R2.out⟩ | ((repeat apply Exists.intro); exact ⟨⟨Y + 1, by omega, by go_num, R2.out⟩, rfl⟩)
            case measure => simp [intOf]; omega
          · clear HBK
            cases z2
            · have D : Hid (Below w.heap.size w wr.drew ∧ Box 24 wr.drew w_1.heap.size np s r ∧ OwnI 3 wr.drew BP (.slice (some ⟨gp, 0, none⟩) np cp) P ∧ OwnI 3 wr.drew BC (.slice (some ⟨gc, 0, none⟩) np cc) Q) := ⟨HQ.out.1.drew, Box.drew HQ.out.2.1, HQ.out.2.2.1.below ((Below.refl _ _).drew) (Nat.le_refl _), HQ.out.2.2.2.below ((Below.refl _ _).drew) (Nat.le_refl _)⟩
              have q0 : ∀ QQ : Wd (fun Z => Z.cell? ⟨gp, X, none⟩ = some (.int .i64 px) ∧ Z.cell? ⟨gp, Y, none⟩ = some (.int .i64 py) ∧ Z.cell? ⟨gc, X, none⟩ = some (.int .i64 cx) ∧ Z.cell? ⟨gc, Y, none⟩ = some (.int .i64 cy) ∧ Z.cell? ⟨w_1.heap.size, 0, none⟩ = some (.int .i64 np) ∧ Z.cell? ⟨w_1.heap.size, 1, none⟩ = some (.string s) ∧ Z.cell? ⟨w_1.heap.size, 2, none⟩ = some (.string r)), QQ.w.cell? ⟨gp, X, none⟩ = some (.int .i64 px) := fun QQ => QQ.ok.1
              have q1 : ∀ QQ : Wd (fun Z => Z.cell? ⟨gp, X, none⟩ = some (.int .i64 px) ∧ Z.cell? ⟨gp, Y, none⟩ = some (.int .i64 py) ∧ Z.cell? ⟨gc, X, none⟩ = some (.int .i64 cx) ∧ Z.cell? ⟨gc, Y, none⟩ = some (.int .i64 cy) ∧ Z.cell? ⟨w_1.heap.size, 0, none⟩ = some (.int .i64 np) ∧ Z.cell? ⟨w_1.heap.size, 1, none⟩ = some (.string s) ∧ Z.cell? ⟨w_1.heap.size, 2, none⟩ = some (.string r)), QQ.w.cell? ⟨gp, Y, none⟩ = some (.int .i64 py) := fun QQ => QQ.ok.2.1
              have q2 : ∀ QQ : Wd (fun Z => Z.cell? ⟨gp, X, none⟩ = some (.int .i64 px) ∧ Z.cell? ⟨gp, Y, none⟩ = some (.int .i64 py) ∧ Z.cell? ⟨gc, X, none⟩ = some (.int .i64 cx) ∧ Z.cell? ⟨gc, Y, none⟩ = some (.int .i64 cy) ∧ Z.cell? ⟨w_1.heap.size, 0, none⟩ = some (.int .i64 np) ∧ Z.cell? ⟨w_1.heap.size, 1, none⟩ = some (.string s) ∧ Z.cell? ⟨w_1.heap.size, 2, none⟩ = some (.string r)), QQ.w.cell? ⟨gc, X, none⟩ = some (.int .i64 cx) := fun QQ => QQ.ok.2.2.1
              have q3 : ∀ QQ : Wd (fun Z => Z.cell? ⟨gp, X, none⟩ = some (.int .i64 px) ∧ Z.cell? ⟨gp, Y, none⟩ = some (.int .i64 py) ∧ Z.cell? ⟨gc, X, none⟩ = some (.int .i64 cx) ∧ Z.cell? ⟨gc, Y, none⟩ = some (.int .i64 cy) ∧ Z.cell? ⟨w_1.heap.size, 0, none⟩ = some (.int .i64 np) ∧ Z.cell? ⟨w_1.heap.size, 1, none⟩ = some (.string s) ∧ Z.cell? ⟨w_1.heap.size, 2, none⟩ = some (.string r)), QQ.w.cell? ⟨gc, Y, none⟩ = some (.int .i64 cy) := fun QQ => QQ.ok.2.2.2.1
              have q4 : ∀ QQ : Wd (fun Z => Z.cell? ⟨gp, X, none⟩ = some (.int .i64 px) ∧ Z.cell? ⟨gp, Y, none⟩ = some (.int .i64 py) ∧ Z.cell? ⟨gc, X, none⟩ = some (.int .i64 cx) ∧ Z.cell? ⟨gc, Y, none⟩ = some (.int .i64 cy) ∧ Z.cell? ⟨w_1.heap.size, 0, none⟩ = some (.int .i64 np) ∧ Z.cell? ⟨w_1.heap.size, 1, none⟩ = some (.string s) ∧ Z.cell? ⟨w_1.heap.size, 2, none⟩ = some (.string r)), QQ.w.cell? ⟨w_1.heap.size, 0, none⟩ = some (.int .i64 np) := fun QQ => QQ.ok.2.2.2.2.1
              have q5 : ∀ QQ : Wd (fun Z => Z.cell? ⟨gp, X, none⟩ = some (.int .i64 px) ∧ Z.cell? ⟨gp, Y, none⟩ = some (.int .i64 py) ∧ Z.cell? ⟨gc, X, none⟩ = some (.int .i64 cx) ∧ Z.cell? ⟨gc, Y, none⟩ = some (.int .i64 cy) ∧ Z.cell? ⟨w_1.heap.size, 0, none⟩ = some (.int .i64 np) ∧ Z.cell? ⟨w_1.heap.size, 1, none⟩ = some (.string s) ∧ Z.cell? ⟨w_1.heap.size, 2, none⟩ = some (.string r)), QQ.w.cell? ⟨w_1.heap.size, 1, none⟩ = some (.string s) := fun QQ => QQ.ok.2.2.2.2.2.1
              have q6 : ∀ QQ : Wd (fun Z => Z.cell? ⟨gp, X, none⟩ = some (.int .i64 px) ∧ Z.cell? ⟨gp, Y, none⟩ = some (.int .i64 py) ∧ Z.cell? ⟨gc, X, none⟩ = some (.int .i64 cx) ∧ Z.cell? ⟨gc, Y, none⟩ = some (.int .i64 cy) ∧ Z.cell? ⟨w_1.heap.size, 0, none⟩ = some (.int .i64 np) ∧ Z.cell? ⟨w_1.heap.size, 1, none⟩ = some (.string s) ∧ Z.cell? ⟨w_1.heap.size, 2, none⟩ = some (.string r)), QQ.w.cell? ⟨w_1.heap.size, 2, none⟩ = some (.string r) := fun QQ => QQ.ok.2.2.2.2.2.2
              have hne : Nonempty (Wd (fun Z => Z.cell? ⟨gp, X, none⟩ = some (.int .i64 px) ∧ Z.cell? ⟨gp, Y, none⟩ = some (.int .i64 py) ∧ Z.cell? ⟨gc, X, none⟩ = some (.int .i64 cx) ∧ Z.cell? ⟨gc, Y, none⟩ = some (.int .i64 cy) ∧ Z.cell? ⟨w_1.heap.size, 0, none⟩ = some (.int .i64 np) ∧ Z.cell? ⟨w_1.heap.size, 1, none⟩ = some (.string s) ∧ Z.cell? ⟨w_1.heap.size, 2, none⟩ = some (.string r))) := ⟨⟨wr, ⟨kx, ky, lx, ly, a0, a1, a2⟩⟩⟩
              go_wp2_with fail
              refine chain (S := (fun Z => Z.cell? ⟨gp, X, none⟩ = some (.int .i64 px) ∧ Z.cell? ⟨gp, Y, none⟩ = some (.int .i64 py) ∧ Z.cell? ⟨gc, X, none⟩ = some (.int .i64 cx) ∧ Z.cell? ⟨gc, Y, none⟩ = some (.int .i64 cy) ∧ Z.cell? ⟨w_1.heap.size, 0, none⟩ = some (.int .i64 np) ∧ Z.cell? ⟨w_1.heap.size, 1, none⟩ = some (.string s) ∧ Z.cell? ⟨w_1.heap.size, 2, none⟩ = some (.string r))) [([true, true, true, true, true, true, true, true, true, true, true, true, true, true], 14)] [false, false, false, false, false, false, false, false, false, false, false, false, false, false, false, true, true, true, true, true, true, true, true, true, true, true, true, true, true, true, true, true, true, true, true, true, true, true] (by kernel_rfl) (by kernel_rfl) (by kernel_rfl) ⟨kx, ky, lx, ly, a0, a1, a2⟩ ?_
              simp only [wpSegs, pickB, List.dropLast_cons_cons, List.dropLast_singleton, List.getLast?_cons_cons, List.getLast?_singleton, List.toList_toArray, List.getElem?_toArray, List.getElem?_cons_succ, List.getElem?_cons_zero, Option.toList_some]
              repeat (go_big_quiet_step (fail))
              refine wpQuiet_nil ?_
              intro K hK
              go_wp2_with fail
              refine (implSameBall_any np s r X np s r Y R _ (by omega) (by omega) (by omega) (by omega)).mono ?_
              rintro er w7 ⟨rfl, hb⟩
              rw [HSB.out]
              have R2 := Lib.hid (show _ ∧ _ ∧ _ ∧ _ from ⟨D.out.1.trans (hb.mono D.out.1.size), D.out.2.1.below hb D.out.2.1.lt, D.out.2.2.1.below hb (Nat.le_refl _), D.out.2.2.2.below hb (Nat.le_refl _)⟩)
              have r1 := R2.out.2.2.1.cell X (by have := HF.out.pl; omega)
              have r2 := R2.out.2.2.1.cell Y (by have := HF.out.pl; omega)
              have r3 := R2.out.2.2.2.cell X (by have := HF.out.ql; omega)
              have r4 := R2.out.2.2.2.cell Y (by have := HF.out.ql; omega)
              obtain ⟨r5, r6, r7⟩ := R2.out.2.1.c
              rw [HPX.out] at r1
              rw [HPY.out] at r2
              rw [HCX.out] at r3
              rw [HCY.out] at r4
              clear hb
              go_wp2_with fail
              refine hK _ _ ⟨r1, r2, r3, r4, r5, r6, r7⟩ ?_
              clear hK K
              repeat (go_big_quiet_step (fail))
              refine wpQuiet_nil ?_
              clear q0 q1 q2 q3 q4 q5 q6 hne D
              go_wp2
              go_roundw
              case rel => first | exact ⟨Y + 1, by omega, by go_num, R2.out⟩ | ((repeat apply Exists.intro); exact ⟨⟨Y + 1, by omega, by go_num, R2.out⟩, rfl⟩)
              case measure => simp [intOf]; omega
            · have D : Hid (Below w.heap.size w wr.drew ∧ Box 24 wr.drew w_1.heap.size np s r ∧ OwnI 3 wr.drew BP (.slice (some ⟨gp, 0, none⟩) np cp) P ∧ OwnI 3 wr.drew BC (.slice (some ⟨gc, 0, none⟩) np cc) Q) := ⟨HQ.out.1.drew, Box.drew HQ.out.2.1, HQ.out.2.2.1.below ((Below.refl _ _).drew) (Nat.le_refl _), HQ.out.2.2.2.below ((Below.refl _ _).drew) (Nat.le_refl _)⟩
              have q0 : ∀ QQ : Wd (fun Z => Z.cell? ⟨gp, X, none⟩ = some (.int .i64 px) ∧ Z.cell? ⟨gp, Y, none⟩ = some (.int .i64 py) ∧ Z.cell? ⟨gc, X, none⟩ = some (.int .i64 cx) ∧ Z.cell? ⟨gc, Y, none⟩ = some (.int .i64 cy) ∧ Z.cell? ⟨w_1.heap.size, 0, none⟩ = some (.int .i64 np) ∧ Z.cell? ⟨w_1.heap.size, 1, none⟩ = some (.string s) ∧ Z.cell? ⟨w_1.heap.size, 2, none⟩ = some (.string r)), QQ.w.cell? ⟨gp, X, none⟩ = some (.int .i64 px) := fun QQ => QQ.ok.1
              have q1 : ∀ QQ : Wd (fun Z => Z.cell? ⟨gp, X, none⟩ = some (.int .i64 px) ∧ Z.cell? ⟨gp, Y, none⟩ = some (.int .i64 py) ∧ Z.cell? ⟨gc, X, none⟩ = some (.int .i64 cx) ∧ Z.cell? ⟨gc, Y, none⟩ = some (.int .i64 cy) ∧ Z.cell? ⟨w_1.heap.size, 0, none⟩ = some (.int .i64 np) ∧ Z.cell? ⟨w_1.heap.size, 1, none⟩ = some (.string s) ∧ Z.cell? ⟨w_1.heap.size, 2, none⟩ = some (.string r)), QQ.w.cell? ⟨gp, Y, none⟩ = some (.int .i64 py) := fun QQ => QQ.ok.2.1
              have q2 : ∀ QQ : Wd (fun Z => Z.cell? ⟨gp, X, none⟩ = some (.int .i64 px) ∧ Z.cell? ⟨gp, Y, none⟩ = some (.int .i64 py) ∧ Z.cell? ⟨gc, X, none⟩ = some (.int .i64 cx) ∧ Z.cell? ⟨gc, Y, none⟩ = some (.int .i64 cy) ∧ Z.cell? ⟨w_1.heap.size, 0, none⟩ = some (.int .i64 np) ∧ Z.cell? ⟨w_1.heap.size, 1, none⟩ = some (.string s) ∧ Z.cell? ⟨w_1.heap.size, 2, none⟩ = some (.string r)), QQ.w.cell? ⟨gc, X, none⟩ = some (.int .i64 cx) := fun QQ => QQ.ok.2.2.1
              have q3 : ∀ QQ : Wd (fun Z => Z.cell? ⟨gp, X, none⟩ = some (.int .i64 px) ∧ Z.cell? ⟨gp, Y, none⟩ = some (.int .i64 py) ∧ Z.cell? ⟨gc, X, none⟩ = some (.int .i64 cx) ∧ Z.cell? ⟨gc, Y, none⟩ = some (.int .i64 cy) ∧ Z.cell? ⟨w_1.heap.size, 0, none⟩ = some (.int .i64 np) ∧ Z.cell? ⟨w_1.heap.size, 1, none⟩ = some (.string s) ∧ Z.cell? ⟨w_1.heap.size, 2, none⟩ = some (.string r)), QQ.w.cell? ⟨gc, Y, none⟩ = some (.int .i64 cy) := fun QQ => QQ.ok.2.2.2.1
              have q4 : ∀ QQ : Wd (fun Z => Z.cell? ⟨gp, X, none⟩ = some (.int .i64 px) ∧ Z.cell? ⟨gp, Y, none⟩ = some (.int .i64 py) ∧ Z.cell? ⟨gc, X, none⟩ = some (.int .i64 cx) ∧ Z.cell? ⟨gc, Y, none⟩ = some (.int .i64 cy) ∧ Z.cell? ⟨w_1.heap.size, 0, none⟩ = some (.int .i64 np) ∧ Z.cell? ⟨w_1.heap.size, 1, none⟩ = some (.string s) ∧ Z.cell? ⟨w_1.heap.size, 2, none⟩ = some (.string r)), QQ.w.cell? ⟨w_1.heap.size, 0, none⟩ = some (.int .i64 np) := fun QQ => QQ.ok.2.2.2.2.1
              have q5 : ∀ QQ : Wd (fun Z => Z.cell? ⟨gp, X, none⟩ = some (.int .i64 px) ∧ Z.cell? ⟨gp, Y, none⟩ = some (.int .i64 py) ∧ Z.cell? ⟨gc, X, none⟩ = some (.int .i64 cx) ∧ Z.cell? ⟨gc, Y, none⟩ = some (.int .i64 cy) ∧ Z.cell? ⟨w_1.heap.size, 0, none⟩ = some (.int .i64 np) ∧ Z.cell? ⟨w_1.heap.size, 1, none⟩ = some (.string s) ∧ Z.cell? ⟨w_1.heap.size, 2, none⟩ = some (.string r)), QQ.w.cell? ⟨w_1.heap.size, 1, none⟩ = some (.string s) := fun QQ => QQ.ok.2.2.2.2.2.1
              have q6 : ∀ QQ : Wd (fun Z => Z.cell? ⟨gp, X, none⟩ = some (.int .i64 px) ∧ Z.cell? ⟨gp, Y, none⟩ = some (.int .i64 py) ∧ Z.cell? ⟨gc, X, none⟩ = some (.int .i64 cx) ∧ Z.cell? ⟨gc, Y, none⟩ = some (.int .i64 cy) ∧ Z.cell? ⟨w_1.heap.size, 0, none⟩ = some (.int .i64 np) ∧ Z.cell? ⟨w_1.heap.size, 1, none⟩ = some (.string s) ∧ Z.cell? ⟨w_1.heap.size, 2, none⟩ = some (.string r)), QQ.w.cell? ⟨w_1.heap.size, 2, none⟩ = some (.string r) := fun QQ => QQ.ok.2.2.2.2.2.2
              have hne : Nonempty (Wd (fun Z => Z.cell? ⟨gp, X, none⟩ = some (.int .i64 px) ∧ Z.cell? ⟨gp, Y, none⟩ = some (.int .i64 py) ∧ Z.cell? ⟨gc, X, none⟩ = some (.int .i64 cx) ∧ Z.cell? ⟨gc, Y, none⟩ = some (.int .i64 cy) ∧ Z.cell? ⟨w_1.heap.size, 0, none⟩ = some (.int .i64 np) ∧ Z.cell? ⟨w_1.heap.size, 1, none⟩ = some (.string s) ∧ Z.cell? ⟨w_1.heap.size, 2, none⟩ = some (.string r))) := ⟨⟨wr, ⟨kx, ky, lx, ly, a0, a1, a2⟩⟩⟩
              go_wp2_with fail
              refine chain (S := (fun Z => Z.cell? ⟨gp, X, none⟩ = some (.int .i64 px) ∧ Z.cell? ⟨gp, Y, none⟩ = some (.int .i64 py) ∧ Z.cell? ⟨gc, X, none⟩ = some (.int .i64 cx) ∧ Z.cell? ⟨gc, Y, none⟩ = some (.int .i64 cy) ∧ Z.cell? ⟨w_1.heap.size, 0, none⟩ = some (.int .i64 np) ∧ Z.cell? ⟨w_1.heap.size, 1, none⟩ = some (.string s) ∧ Z.cell? ⟨w_1.heap.size, 2, none⟩ = some (.string r))) [([true, true, true, true, true, true, true, true, true, true, true, true, true, true], 14)] [false, false, false, false, false, false, false, false, false, false, false, false, false, false, false, true, true, true, true, true, true, true, true, true, true, true, true, true, true, true, true, true, true, true, true, true, true, true] (by kernel_rfl) (by kernel_rfl) (by kernel_rfl) ⟨kx, ky, lx, ly, a0, a1, a2⟩ ?_
              simp only [wpSegs, pickB, List.dropLast_cons_cons, List.dropLast_singleton, List.getLast?_cons_cons, List.getLast?_singleton, List.toList_toArray, List.getElem?_toArray, List.getElem?_cons_succ, List.getElem?_cons_zero, Option.toList_some]
              repeat (go_big_quiet_step (fail))
              refine wpQuiet_nil ?_
              intro K hK
              go_wp2_with fail
              refine (implSameBall_any np s r X np s r Y R _ (by omega) (by omega) (by omega) (by omega)).mono ?_
              rintro er w7 ⟨rfl, hb⟩
              rw [HSB.out]
              have R2 := Lib.hid (show _ ∧ _ ∧ _ ∧ _ from ⟨D.out.1.trans (hb.mono D.out.1.size), D.out.2.1.below hb D.out.2.1.lt, D.out.2.2.1.below hb (Nat.le_refl _), D.out.2.2.2.below hb (Nat.le_refl _)⟩)
              have r1 := R2.out.2.2.1.cell X (by have := HF.out.pl; omega)
              have r2 := R2.out.2.2.1.cell Y (by have := HF.out.pl; omega)
              have r3 := R2.out.2.2.2.cell X (by have := HF.out.ql; omega)
              have r4 := R2.out.2.2.2.cell Y (by have := HF.out.ql; omega)
              obtain ⟨r5, r6, r7⟩ := R2.out.2.1.c
              rw [HPX.out] at r1
              rw [HPY.out] at r2
              rw [HCX.out] at r3
              rw [HCY.out] at r4
              clear hb
              go_wp2_with fail
              refine hK _ _ ⟨r1, r2, r3, r4, r5, r6, r7⟩ ?_
              clear hK K
              repeat (go_big_quiet_step (fail))
              refine wpQuiet_nil ?_
              clear q0 q1 q2 q3 q4 q5 q6 hne D
              go_wp2
              go_roundw
              case rel => first | exact ⟨Y + 1, by omega, by go_num, R2.out⟩ | ((repeat apply Exists.intro); exact ⟨⟨Y + 1, by omega, by go_num, R2.out⟩, rfl⟩)
              case measure => simp [intOf]; omega
        · obtain rfl : np = Y := by omega
          go_wp2
          go_roundw
          case rel => exact ⟨X + 1, by omega, by go_num, HQ.out⟩
          case measure => simp [intOf]; omega
    · obtain rfl : np = X := by omega
      clear hXN
      have k0 := HQ.out.2.2.1.cell 0 (by have := HF.out.pl; omega)
      rw [HF.out.zero] at k0
      have AWF := Lib.hid HQ.out.1
      clear HQ
      go_wp2
      go_ret
      exact ⟨rfl, AWF.out⟩
end Go.Proofs.YtefneihlgclkbaaDoor.fnBallClassesW
