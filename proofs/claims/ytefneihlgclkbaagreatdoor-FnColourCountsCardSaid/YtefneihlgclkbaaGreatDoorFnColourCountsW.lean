/- FnColourCounts: the walk. -/
import Derived.Test.YtefneihlgclkbaaGreatDoorDrawH
import Derived.Test.YtefneihlgclkbaaGreatDoorKinds
import Derived.Test.YtefneihlgclkbaaGreatDoorCountL
import Derived.Test.YtefneihlgclkbaaGreatDoorPkE
import Derived.Test.YtefneihlgclkbaaGreatDoorGs
import Derived.Test.YtefneihlgclkbaaGreatDoorRow
namespace Go.Proofs.YtefneihlgclkbaaGreatDoor.fnCountsW
set_option linter.unusedVariables false
set_option linter.unusedSimpArgs false
open Go.ChangeShapes Go.WideShapes Go.ChangeAt Go.RowKit
open Go.Proofs.YtefneihlgclkbaaGreatDoor.flow Go.Proofs.YtefneihlgclkbaaGreatDoor.lib Go.Proofs.YtefneihlgclkbaaGreatDoor.st Go.Proofs.YtefneihlgclkbaaGreatDoor.draw Go.Proofs.YtefneihlgclkbaaGreatDoor.base Go.Proofs.YtefneihlgclkbaaGreatDoor.gs Go.Proofs.YtefneihlgclkbaaGreatDoor.col Go.Proofs.YtefneihlgclkbaaGreatDoor.colp Go.Proofs.YtefneihlgclkbaaGreatDoor.specd Go.Proofs.YtefneihlgclkbaaGreatDoor.coli Go.Proofs.YtefneihlgclkbaaGreatDoor.make Go.Proofs.YtefneihlgclkbaaGreatDoor.countl Go.Proofs.YtefneihlgclkbaaGreatDoor.kinds
/-- bytes that came in may be drawn from -/
theorem byt_of_row {w : World} {a : Option Addr} {n c : Nat} {zs : List Int} (h : row.IsRow .u8 w a n c zs) : Byt w w.heap.size a n ∧ n ≤ c ∧ c ≤ 9223372036854775807 := by
  rcases h with ⟨rfl, rfl, rfl, rfl⟩ | ⟨x, rfl, hl, hm, hz, hcell, hwf⟩
  · exact ⟨.inl rfl, Nat.le_refl _, by omega⟩
  · refine ⟨?_, hl, hm⟩
    by_cases h0 : n = 0
    · exact .inl h0
    · obtain ⟨b, off, spot⟩ := x
      have hc := hcell 0 (by omega)
      have hspot : spot = none := by simpa [Addr.add] using World.cell?_spot hc
      subst hspot
      have hlt := World.block_lt_of_cell? w _ hc
      refine .inr ⟨b, off, rfl, by simpa [Addr.add] using hlt, fun i hi => ?_⟩
      have hci := hcell i (by omega)
      have hw := hwf (zs.getD i 0) (by rw [List.getD_eq_getElem?_getD, List.getElem?_eq_getElem (by omega)]; exact List.getElem_mem _)
      have hb : 0 ≤ zs.getD i 0 ∧ zs.getD i 0 ≤ 255 := by
        generalize zs.getD i 0 = z at hw ⊢
        simp only [Lit.wf, IntKind.min, IntKind.max, IntKind.signed, IntKind.bits, Bool.and_eq_true, decide_eq_true_eq] at hw
        simp at hw
        omega
      refine ⟨(zs.getD i 0).toNat, by omega, ?_⟩
      rw [show (⟨b, off, none⟩ : Addr).add i = ⟨b, off + i, none⟩ from by simp only [Addr.add]; split <;> simp [*]] at hci
      rw [hci, show (((zs.getD i 0).toNat : Nat) : Int) = zs.getD i 0 from by omega]

theorem own_at {T : TypeId} {w : World} {B n : Nat} {v : Value} {l : List Int} (h : OwnI T w B v l) (hl : l.length = n) (h1 : 1 ≤ n) : ∃ g c, v = .slice (some ⟨g, 0, none⟩) n c := by
  rcases h.shape with ⟨_, h2⟩ | ⟨g, cap, hv⟩
  · rw [h2] at hl; simp at hl; omega
  · exact ⟨g, cap, by rw [hv, hl]⟩
theorem counts_nil {n : Int} {s r : ByteArray} {x : Int} (h : colsR n s r x = []) : countsR n s r x = [] := by
  unfold countsR
  rw [h]
  have : most [] = 0 := rfl
  rw [this]; rfl
theorem take_count (P : List Int) (c : Int) {X : Nat} (h : X < P.length) : (P.take (X + 1)).count c = (P.take X).count c + (if P.getD X 0 = c then 1 else 0) := by
  rw [List.take_succ_eq_append_getElem h, List.count_append, List.getD_eq_getElem?_getD, List.getElem?_eq_getElem h]
  by_cases e : P[X] = c
  · simp [e]
  · have e2 : (P[X] == c) = false := by simpa using e
    simp [e, List.count_cons, e2]

set_option maxHeartbeats 40000000 in
set_option maxRecDepth 100000 in
theorem walk (a0 : Option Addr) (n0 c0 : Nat) (l0 : List Int) (w : World) (h0 : row.IsRow .u8 w a0 n0 c0 l0) :
    Calls Tryz.prog 4 #[.slice a0 n0 c0] w fun e w' => e = .returned (.bool true) ∧ Below w.heap.size w w' := by
  obtain ⟨by0, nc0, cm0⟩ := byt_of_row h0
  have BY0 := Lib.hid by0
  clear by0
  clear h0
  by_cases hg0 : 1048576 < n0
  · go_enter Tryz.func4, Tryz.ntmps4
    go_wp2
    go_ret
    exact ⟨rfl, Below.refl _ _⟩
  go_enter Tryz.func4, Tryz.ntmps4
  have AW_0 : Hid (Below w.heap.size w w) := Below.refl _ _
  go_wp2_with fail
  refine (drawCounts_any a0 n0 c0 _ BY0.out nc0 cm0).mono ?_
  rintro e w_1 ⟨n, s, r, x, rfl, hnw, hs, hr, hxw, hb⟩
  have hbn := hb
  have AW_1 : Hid (Below w.heap.size w w_1) := AW_0.out.trans (hbn.mono AW_0.out.size)
  clear hbn AW_0 
  have FA_1 : Hid (Box 24 (w_1.alloc (.cells #[.int .i64 n, .string s, .string r] 24)) (w_1.heap.size) n s r) := Box.new _ w_1 (w_1.heap.size) (by simp) _ _ _
  obtain ⟨a0, a1, a2⟩ := Box.c FA_1.out
  clear hb hnw hxw
  obtain ⟨P, hP⟩ : ∃ P, P = colsR n s r x := ⟨_, rfl⟩
  obtain ⟨Q, hQ⟩ : ∃ Q, Q = countsR n s r x := ⟨_, rfl⟩
  have HP := Lib.hid hP
  have HQ := Lib.hid hQ
  have HLEN : Hid (P.length ≤ 8) := by rw [hP]; exact colsR_len n s r x
  have HQLEN : Hid (Q.length ≤ 100) := by
    show Q.length ≤ 100
    by_cases h0 : colsR n s r x = []
    · rw [hQ, counts_nil h0]; simp
    · obtain ⟨N, K, m, rfl, rfl, hf⟩ := countl.fact h0
      rw [hQ, hf.ql]; have := hf.m8; omega
  clear hP hQ
  go_wp2_with fail
  clear a0 a1 a2
  refine (implColourCounts_any n s r x _ (by omega) (by omega)).mono ?_
  rintro e w_2 ⟨vq, rfl, ho, hb⟩
  have hbn : Below w_1.heap.size w_1 w_2 := ((Below.refl w_1.heap.size w_1).alloc (by simp) (.cells #[.int .i64 n, .string s, .string r] 24)).trans (hb.mono (show w_1.heap.size ≤ _ by simp))
  have FA_2 := Lib.hid (FA_1.out.below hb (by simp))
  have AW_2 : Hid (Below w.heap.size w w_2) := AW_1.out.trans (hbn.mono AW_1.out.size)
  clear hbn AW_1 FA_1
  rw [← HQ.out] at ho
  have FQ_2 := Lib.hid (ho)
  clear ho hb
  obtain ⟨a0, a1, a2⟩ := Box.c FA_2.out
  go_wp2_with fail
  clear a0 a1 a2
  refine (implColoursOf_any n s r x _ (by omega) (by omega)).mono ?_
  rintro e w_3 ⟨vp, rfl, ho, hb⟩
  have hbn := hb
  have FA_3 := Lib.hid (FA_2.out.below hbn FA_2.out.lt)
  have FQ_3 := Lib.hid (FQ_2.out.below hbn (Nat.le_refl _))
  have AW_3 : Hid (Below w.heap.size w w_3) := AW_2.out.trans (hbn.mono AW_2.out.size)
  clear hbn AW_2 FA_2 FQ_2
  rw [← HP.out] at ho
  have FP_3 := Lib.hid (ho)
  clear ho hb
  obtain ⟨a0, a1, a2⟩ := Box.c FA_3.out
  obtain ⟨ap, cp, hv⟩ := (OwnI.reads FP_3.out).len
  obtain ⟨np, hnp⟩ : ∃ QZ, QZ = P.length := ⟨_, rfl⟩
  rw [← hnp] at hv
  subst hv
  have HNP := Lib.hid hnp
  obtain ⟨aq, cq, hv⟩ := (OwnI.reads FQ_3.out).len
  obtain ⟨nq, hnq⟩ : ∃ QZ, QZ = Q.length := ⟨_, rfl⟩
  rw [← hnq] at hv
  subst hv
  have HNQ := Lib.hid hnq
  clear hnp hnq
  go_wp2_with fail
  clear a0 a1 a2
  refine (specColourCounts_any n s r x _ (by omega) (by omega)).mono ?_
  rintro e w_4 ⟨up, rfl, ho, hb⟩
  have hbn := hb
  have FA_4 := Lib.hid (FA_3.out.below hbn FA_3.out.lt)
  have FQ_4 := Lib.hid (FQ_3.out.below hbn (Nat.le_refl _))
  have FP_4 := Lib.hid (FP_3.out.below hbn (Nat.le_refl _))
  have AW_4 : Hid (Below w.heap.size w w_4) := AW_3.out.trans (hbn.mono AW_3.out.size)
  clear hbn AW_3 FA_3 FQ_3 FP_3
  rw [← HQ.out] at ho
  have FU_4 := Lib.hid (ho)
  clear ho hb
  go_wp2_with fail
  refine (gsSame_same _ _ Q _ (OwnI.reads FQ_4.out) (OwnI.reads FU_4.out) (by have := HQLEN.out; omega)).mono ?_
  rintro e w_5 ⟨rfl, hb⟩
  have hbn := hb
  have FA_5 := Lib.hid (FA_4.out.below hbn FA_4.out.lt)
  have FQ_5 := Lib.hid (FQ_4.out.below hbn (Nat.le_refl _))
  have FP_5 := Lib.hid (FP_4.out.below hbn (Nat.le_refl _))
  have FU_5 := Lib.hid (FU_4.out.below hbn (Nat.le_refl _))
  have AW_5 : Hid (Below w.heap.size w w_5) := AW_4.out.trans (hbn.mono AW_4.out.size)
  clear hbn AW_4 FA_4 FQ_4 FP_4 FU_4
  clear hb
  by_cases h0 : np = 0
  · have t0 : ((np : Int) == 0) = true := by simp [h0]
    have hpn : P = [] := List.length_eq_zero_iff.1 (by rw [← HNP.out]; exact h0)
    have hnq0 : nq = 0 := by rw [HNQ.out, HQ.out, counts_nil (by rw [← HP.out]; exact hpn)]; rfl
    have t2 : ((nq : Int) == (np : Int)) = true := by simp [hnq0, h0]
    clear h0 hpn hnq0
    obtain ⟨a0, a1, a2⟩ := Box.c FA_5.out
    go_wp2_with fail
    clear a0 a1 a2
    refine (specColourCounts_any n s r x _ (by omega) (by omega)).mono ?_
    rintro e w_6 ⟨uq, rfl, ho, hb⟩
    have hbn := hb
    have FA_6 := Lib.hid (FA_5.out.below hbn FA_5.out.lt)
    have FQ_6 := Lib.hid (FQ_5.out.below hbn (Nat.le_refl _))
    have FP_6 := Lib.hid (FP_5.out.below hbn (Nat.le_refl _))
    have FU_6 := Lib.hid (FU_5.out.below hbn (Nat.le_refl _))
    have AW_6 : Hid (Below w.heap.size w w_6) := AW_5.out.trans (hbn.mono AW_5.out.size)
    clear hbn AW_5 FA_5 FQ_5 FP_5 FU_5
    rw [← HQ.out] at ho
    have FZ_6 := Lib.hid (ho)
    clear ho hb
    go_wp2_with fail
    refine (gsSame_same _ _ Q _ (OwnI.reads FQ_6.out) (OwnI.reads FZ_6.out) (by have := HQLEN.out; omega)).mono ?_
    rintro e w_7 ⟨rfl, hb⟩
    have hbn := hb
    have FA_7 := Lib.hid (FA_6.out.below hbn FA_6.out.lt)
    have FQ_7 := Lib.hid (FQ_6.out.below hbn (Nat.le_refl _))
    have FP_7 := Lib.hid (FP_6.out.below hbn (Nat.le_refl _))
    have FU_7 := Lib.hid (FU_6.out.below hbn (Nat.le_refl _))
    have FZ_7 := Lib.hid (FZ_6.out.below hbn (Nat.le_refl _))
    have AW_7 : Hid (Below w.heap.size w w_7) := AW_6.out.trans (hbn.mono AW_6.out.size)
    clear hbn AW_6 FA_6 FQ_6 FP_6 FU_6 FZ_6
    clear hb
    go_wp2
    go_ret
    exact ⟨rfl, AW_7.out⟩
  have t0 : ((np : Int) == 0) = false := by simp; omega
  obtain ⟨N, R, m, rfl, rfl, hf⟩ := countl.fact (n := n) (s := s) (r := r) (x := x) (by rw [← HP.out]; intro e; have := HNP.out; rw [e] at this; exact h0 this)
  rw [← HP.out, ← HQ.out] at hf
  have HF := Lib.hid hf
  have hN1 := hf.n1
  have hN8 := hf.n8
  have hm8 := hf.m8
  have hnN : np = N := by rw [HNP.out]; exact hf.pl
  have hnm : nq = m := by rw [HNQ.out]; exact hf.ql
  clear hf h0 HNP HNQ FU_5
  subst hnN
  subst hnm
  obtain ⟨gp, cpx, hv⟩ := own_at FP_5.out HF.out.pl hN1
  simp only [Value.slice.injEq] at hv
  obtain ⟨rfl, -, rfl⟩ := hv
  have hcellp : Hid (∀ i, i < np → w_5.cell? ⟨gp, i, none⟩ = some (.int .i64 (P.getD i 0))) := fun i hi => FP_5.out.cell i (by rw [HF.out.pl]; exact hi)
  obtain ⟨a0, a1, a2⟩ := Box.c FA_5.out
  have hcellq : Hid (∀ i, i < nq → ∃ g, aq = some ⟨g, 0, none⟩ ∧ w_5.cell? ⟨g, i, none⟩ = some (.int .i64 (Q.getD i 0))) := fun i hi => by
    obtain ⟨gq, cqx, hv⟩ := own_at FQ_5.out HF.out.ql (by omega)
    simp only [Value.slice.injEq] at hv
    obtain ⟨rfl, -, rfl⟩ := hv
    exact ⟨gq, rfl, FQ_5.out.cell i (by rw [HF.out.ql]; exact hi)⟩
  clear FP_5 FQ_5
  go_wp2_with fail
  go_loopw [7, 8] (fun v i wr => ∃ c : Nat, c ≤ nq ∧ i = .int .i64 c ∧ v = .int .i64 (sumTo P c : Nat) ∧ sumTo P c ≤ 8 * c ∧ wr = w_5) (fun _ i _ => nq - (intOf i).toNat)
  case atStart => exact ⟨0, Nat.zero_le _, rfl, rfl, Nat.le_refl _, rfl⟩
  case round =>
    obtain ⟨c, hc, rfl, rfl, hsum, hwr⟩ := hrel
    rw [hwr]
    clear hwr wr
    by_cases hcm : c < nq
    · have tc : decide ((c : Int) < (nq : Int)) = true := by simp; omega
      obtain ⟨S, hS⟩ : ∃ S, S = sumTo P c := ⟨_, rfl⟩
      have HSS : Hid (sumTo P (c + 1) = S + P.count (c : Int)) := by rw [hS]; rfl
      have hS64 : S ≤ 64 := by omega
      have hS8 : S ≤ 8 * c := by omega
      rw [← hS]
      clear hS hsum
      go_wp2_with fail
      go_loopw [9, 10] (fun v i wr => ∃ X : Nat, X ≤ np ∧ i = .int .i64 X ∧ v = .int .i64 ((P.take X).count (c : Int) : Nat) ∧ wr = w_5) (fun _ i _ => np - (intOf i).toNat)
      case atStart => exact ⟨0, Nat.zero_le _, rfl, rfl, rfl⟩
      case round =>
        obtain ⟨X, hX, rfl, rfl, hwr⟩ := hrel
        rw [hwr]
        clear hwr wr
        by_cases hXN : X < np
        · have tX : decide ((X : Int) < (np : Int)) = true := by simp; omega
          have cx := hcellp.out X hXN
          obtain ⟨z, hz⟩ : ∃ z, z = P.getD X 0 := ⟨_, rfl⟩
          have HT := take_count P (c : Int) (X := X) (by rw [HF.out.pl]; exact hXN)
          have hle : (P.take X).count (c : Int) ≤ X := Nat.le_trans List.count_le_length (by rw [List.length_take]; omega)
          obtain ⟨q, hq⟩ : ∃ q, q = (P.take X).count (c : Int) := ⟨_, rfl⟩
          rw [← hz] at cx
          rw [← hz, ← hq] at HT
          rw [← hq] at hle ⊢
          clear hz hq
          by_cases he : z = c
          · have HT2 : Hid ((P.take (X + 1)).count (c : Int) = q + 1) := by rw [Hid, HT, if_pos he]
            have te : (z == (c : Int)) = true := by simpa using he
            clear HT he
            go_wp2
            go_roundw
            case rel => first | exact ⟨X + 1, by omega, by go_num, by rw [HT2.out]; go_num, trivial⟩ | exact ⟨X + 1, by omega, by go_num, by rw [HT2.out]; go_num, rfl⟩
            case measure => simp [intOf]; omega
          · have HT2 : Hid ((P.take (X + 1)).count (c : Int) = q) := by rw [Hid, HT, if_neg he, Nat.add_zero]
            have te : (z == (c : Int)) = false := by simpa using he
            clear HT he
            go_wp2
            go_roundw
            case rel => first | exact ⟨X + 1, by omega, by go_num, by rw [HT2.out], trivial⟩ | exact ⟨X + 1, by omega, by go_num, by rw [HT2.out], rfl⟩
            case measure => simp [intOf]; omega
        · obtain rfl : np = X := by omega
          have tX : decide ((np : Int) < (np : Int)) = false := by simp
          have hfull : P.take np = P := by rw [← HF.out.pl]; exact List.take_length
          rw [hfull]
          obtain ⟨gq, rfl, cqq⟩ := hcellq.out c hcm
          rw [HF.out.at' c hcm] at cqq
          have hpos := HF.out.pos c hcm
          have hle := HF.out.le c
          obtain ⟨q, hq⟩ : ∃ q, q = P.count (c : Int) := ⟨_, rfl⟩
          rw [← hq] at HSS cqq hpos hle
          rw [← hq]
          have t1 : ((q : Int) == 0) = false := by simp; omega
          clear hq hfull hXN hX
          go_wp2
          go_roundw
          case rel => first | exact ⟨c + 1, by omega, by go_num, by rw [HSS.out]; go_num, by rw [HSS.out]; omega, trivial⟩ | exact ⟨c + 1, by omega, by go_num, by rw [HSS.out]; go_num, by rw [HSS.out]; omega, rfl⟩
          case measure => simp [intOf]; omega
    · obtain rfl : nq = c := by omega
      have tc : decide ((nq : Int) < (nq : Int)) = false := by simp
      have hs2 := HF.out.sum
      rw [hs2]
      by_cases hR0 : R = 0
      · subst hR0
        have HKD := Lib.hid (HF.out.kd rfl)
        clear hs2 hsum hcm hc
        go_wp2_with fail
        refine (implCountKinds_one np s r _ HF.out.hv hN1 hN8 HF.out.hs HF.out.hr).mono ?_
        rintro e w8 ⟨rfl, hb8⟩
        have R8 : Hid (Below w.heap.size w w8) := AW_5.out.trans (hb8.mono AW_5.out.size)
        rw [← HKD.out]
        clear hb8
        go_wp2
        go_ret
        exact ⟨rfl, R8.out⟩
      · have tr : decide ((0 : Int) < (R : Int)) = true := by simp; omega
        have tr2 : decide (0 < R) = true := by simp; omega
        clear hs2 hsum hcm hc
        go_wp2
        go_ret
        exact ⟨rfl, AW_5.out⟩
end Go.Proofs.YtefneihlgclkbaaGreatDoor.fnCountsW
