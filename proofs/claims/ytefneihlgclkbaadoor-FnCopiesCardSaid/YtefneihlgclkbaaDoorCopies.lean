/- CopiesOf of the program and of the reference: contracts. -/
import Derived.Test.YtefneihlgclkbaaDoorVal
namespace Go.Proofs.YtefneihlgclkbaaDoor.copies
set_option linter.unusedVariables false
set_option linter.unusedSimpArgs false
open Go.ChangeShapes Go.WideShapes Go.ChangeAt Go.RowKit
open Go.Proofs.YtefneihlgclkbaaDoor.lib Go.Proofs.YtefneihlgclkbaaDoor.st Go.Proofs.YtefneihlgclkbaaDoor.base Go.Proofs.YtefneihlgclkbaaDoor.make Go.Proofs.YtefneihlgclkbaaDoor.prod Go.Proofs.YtefneihlgclkbaaDoor.sum Go.Proofs.YtefneihlgclkbaaDoor.val Go.Proofs.YtefneihlgclkbaaDoor.basic

/-- the copies after k sums -/
def cz (N : Nat) : Nat → Nat
  | 0 => N
  | k + 1 => cz N k + N
def copS (s : ByteArray) : Nat → ByteArray
  | 0 => s
  | k + 1 => copS s k ++ s
def copR (N : Nat) (r : ByteArray) : Nat → ByteArray
  | 0 => r
  | k + 1 => bR (sumRel false (cz N k) (copR N r k) N r) (cz N (k + 1)) (cz N (k + 1))
theorem cz_mul (N : Nat) : ∀ k, cz N k = N * (k + 1)
  | 0 => by simp [cz]
  | k + 1 => by rw [cz, cz_mul N k, Nat.mul_succ N (k + 1)]
theorem cz_mono {N j k : Nat} (h : j ≤ k) : cz N j ≤ cz N k := by rw [cz_mul, cz_mul]; exact Nat.mul_le_mul_left N (by omega)
theorem cop_valid {N : Nat} {s r : ByteArray} (hv : validB N s r = true) : ∀ k, cz N k ≤ 8 → validB (cz N k : Nat) (copS s k) (copR N r k) = true
  | 0, _ => hv
  | k + 1, h => valid_sum (o := false) (cop_valid hv k (by rw [cz] at h; omega)) hv (by rw [cz] at h; exact h)
theorem cop_size {N : Nat} {s r : ByteArray} (hv : validB N s r = true) {k : Nat} (h : cz N k ≤ 8) : (copS s k).size = cz N k ∧ (copR N r k).size = cz N k * cz N k := by
  obtain ⟨_, a, b, _, _⟩ := validB_iff.1 (cop_valid hv k h)
  refine ⟨by omega, ?_⟩
  rw [← Int.natCast_mul] at b
  omega
def okC (n : Int) (s r : ByteArray) (c : Int) : Bool := validB n s r && decide (1 ≤ c ∧ c ≤ 8 ∧ n * c ≤ 8)
def cN (n : Int) (s r : ByteArray) (c : Int) : Int := if okC n s r c = true then (cz n.toNat (c.toNat - 1) : Nat) else 0
def cS (n : Int) (s r : ByteArray) (c : Int) : ByteArray := if okC n s r c = true then copS s (c.toNat - 1) else ⟨#[]⟩
def cR (n : Int) (s r : ByteArray) (c : Int) : ByteArray := if okC n s r c = true then copR n.toNat r (c.toNat - 1) else ⟨#[]⟩
theorem c_no {n : Int} {s r : ByteArray} {c : Int} (h : okC n s r c = false) : cN n s r c = 0 ∧ cS n s r c = ⟨#[]⟩ ∧ cR n s r c = ⟨#[]⟩ := by simp [cN, cS, cR, h]
theorem c_yes {N C : Nat} {s r : ByteArray} (h : okC N s r ((C + 1 : Nat) : Int) = true) : cN N s r ((C + 1 : Nat) : Int) = (cz N C : Nat) ∧ cS N s r ((C + 1 : Nat) : Int) = copS s C ∧ cR N s r ((C + 1 : Nat) : Int) = copR N r C := by
  refine ⟨?_, ?_, ?_⟩ <;> simp only [cN, cS, cR, h, if_true, Int.toNat_natCast, Nat.add_sub_cancel]
theorem okC_iff {N C : Nat} {s r : ByteArray} (hv : validB N s r = true) (hC : C < 8) : okC N s r ((C + 1 : Nat) : Int) = decide (cz N C ≤ 8) := by
  rw [okC, hv, Bool.true_and, cz_mul]
  refine decide_eq_decide.2 ⟨fun h => ?_, fun h => ⟨by omega, by omega, ?_⟩⟩
  · have := h.2.2; rw [← Int.natCast_mul] at this; omega
  · rw [← Int.natCast_mul]; omega
theorem _root_.Go.Proofs.YtefneihlgclkbaaDoor.st.Box.other {T : TypeId} {w : World} {H k j : Nat} {n : Int} {s r : ByteArray} {u : Value} (h : Box T w H n s r) (hne : H ≠ k) : Box T (w.setCell ⟨k, j, none⟩ u) H n s r := by
  unfold Box at *
  rw [heap_setCell_other _ _ _ _ (by exact hne)]; exact h
theorem _root_.Go.Proofs.YtefneihlgclkbaaDoor.st.Box.others {T : TypeId} {w : World} {H k : Nat} {n : Int} {s r : ByteArray} {u0 u1 u2 : Value} (h : Box T w H n s r) (hne : H ≠ k) : Box T (((w.setCell ⟨k, 0, none⟩ u0).setCell ⟨k, 1, none⟩ u1).setCell ⟨k, 2, none⟩ u2) H n s r :=
  ((h.other hne).other hne).other hne
theorem new_zero (w : World) (n : Int) (s r : ByteArray) : Box 24 (w.alloc (.cells #[.int .i64 n, .string s, .string r] 24)) w.heap.size n s r := Box.new 24 w w.heap.size rfl n s r
theorem below_zero (w : World) (n : Int) (s r : ByteArray) : Below w.heap.size w (w.alloc (.cells #[.int .i64 n, .string s, .string r] 24)) := (Below.refl _ _).alloc (Nat.le_refl _) _

set_option maxHeartbeats 6400000 in
set_option maxRecDepth 100000 in
theorem implCopies_any (n : Int) (s r : ByteArray) (c : Int) (w : World) (hs : s.size ≤ 9223372036854775807) (hr : r.size ≤ 9223372036854775807) :
    Calls Tryd.prog 24 #[.agg #[.int .i64 n, .string s, .string r], .int .i64 c] w fun e w' => e = .returned (.tuple #[.agg #[.int .i64 (cN n s r c), .string (cS n s r c), .string (cR n s r c)], .bool (okC n s r c)]) ∧ Below w.heap.size w w' := by
  have BA : Hid (Box 24 ((w.alloc (.cells #[.int .i64 n, .string s, .string r] 24)).alloc (.cells #[.int .i64 0, .string ⟨#[]⟩, .string ⟨#[]⟩] 24)) w.heap.size n s r) := (Box.new 24 w w.heap.size rfl n s r).below ((Below.refl (w.heap.size + 1) _).alloc (by simp) _) (by omega)
  have BZ : Hid (Box 24 ((w.alloc (.cells #[.int .i64 n, .string s, .string r] 24)).alloc (.cells #[.int .i64 0, .string ⟨#[]⟩, .string ⟨#[]⟩] 24)) (w.heap.size + 1) 0 ⟨#[]⟩ ⟨#[]⟩) := Box.new 24 _ (w.heap.size + 1) (by simp) 0 ⟨#[]⟩ ⟨#[]⟩
  have AW : Hid (Below w.heap.size w ((w.alloc (.cells #[.int .i64 n, .string s, .string r] 24)).alloc (.cells #[.int .i64 0, .string ⟨#[]⟩, .string ⟨#[]⟩] 24))) := ((Below.refl _ _).alloc (Nat.le_refl _) _).alloc (by simp) _
  have HE0 : Hid (validB n s r = false ∨ c < 1 ∨ 8 < c → okC n s r c = false) := fun h => by
    rw [okC]; rcases h with h | h
    · rw [h]; rfl
    · rw [decide_eq_false (by omega), Bool.and_false]
  by_cases h1 : c < 1
  · have HO : Hid (okC n s r c = false) := HE0.out (.inr (.inl h1))
    have HE := Lib.hid (c_no HO.out)
    go_enter Tryd.func24, Tryd.ntmps24
    have HF := Lib.hid BZ.out.c
    have R := AW
    go_wp2
    exact bodyPost_ret (v := .tuple #[.agg #[.int .i64 0, .string ⟨#[]⟩, .string ⟨#[]⟩], .bool false]) (by simp [results, Tryd.results24, go_sem, HF.out.1, HF.out.2.1, HF.out.2.2]) rfl ⟨by rw [HE.out.1, HE.out.2.1, HE.out.2.2, HO.out], R.out⟩
  by_cases h8 : 8 < c
  · have HO : Hid (okC n s r c = false) := HE0.out (.inr (.inr h8))
    have HE := Lib.hid (c_no HO.out)
    go_enter Tryd.func24, Tryd.ntmps24
    have HF := Lib.hid BZ.out.c
    have R := AW
    go_wp2
    exact bodyPost_ret (v := .tuple #[.agg #[.int .i64 0, .string ⟨#[]⟩, .string ⟨#[]⟩], .bool false]) (by simp [results, Tryd.results24, go_sem, HF.out.1, HF.out.2.1, HF.out.2.2]) rfl ⟨by rw [HE.out.1, HE.out.2.1, HE.out.2.2, HO.out], R.out⟩
  go_enter Tryd.func24, Tryd.ntmps24
  go_wp2_with fail
  refine (isStructure_any n s r _ hs hr).mono ?_
  rintro e w1 ⟨rfl, hw⟩
  have AW1 : Hid (Below w.heap.size w w1) := AW.out.trans (hw.mono AW.out.size)
  have BA1 := Lib.hid (BA.out.below hw BA.out.lt)
  have BZ1 := Lib.hid (BZ.out.below hw BZ.out.lt)
  clear hw AW BA BZ
  cases hv : validB n s r with
  | false =>
    have HO : Hid (okC n s r c = false) := HE0.out (.inl hv)
    have HE := Lib.hid (c_no HO.out)
    clear hv
    obtain ⟨z0, z1, z2⟩ := BZ1.out.c
    have f0 := BZ1.out.free 0
    have f1 := BZ1.out.free 1
    have f2 := BZ1.out.free 2
    obtain ⟨e0, e1, e2⟩ := (((BZ1.out.set0 0).set1 ⟨#[]⟩).set2 ⟨#[]⟩).c
    have HF := Lib.hid (show _ ∧ _ ∧ _ from ⟨e0, e1, e2⟩)
    clear e0 e1 e2
    have R := Lib.hid (((AW1.out.setCell (p := ⟨w.heap.size + 1, 0, none⟩) (by simp) (.int .i64 0)).setCell (p := ⟨w.heap.size + 1, 1, none⟩) (by simp) (.string ⟨#[]⟩)).setCell (p := ⟨w.heap.size + 1, 2, none⟩) (by simp) (.string ⟨#[]⟩))
    go_wp2
    exact bodyPost_ret (v := .tuple #[.agg #[.int .i64 0, .string ⟨#[]⟩, .string ⟨#[]⟩], .bool false]) (by simp [results, Tryd.results24, go_sem, HF.out.1, HF.out.2.1, HF.out.2.2]) rfl ⟨by rw [HE.out.1, HE.out.2.1, HE.out.2.2, HO.out], R.out⟩
  | true =>
  obtain ⟨N, rfl, hN1, hN8, hsN, hrN⟩ := valid_size hv
  obtain ⟨C, rfl⟩ : ∃ C : Nat, c = ((C + 1 : Nat) : Int) := ⟨c.toNat - 1, by omega⟩
  have hC : C < 8 := by omega
  have HOK := Lib.hid (okC_iff hv hC)
  have HV := Lib.hid hv
  have hcc : ((C + 1 : Nat) : Int) = (C : Int) + 1 := by omega
  have HCC := Lib.hid hcc
  obtain ⟨a0, a1, a2⟩ := BA1.out.c
  clear hv hs hr HE0 h1 h8 hcc hsN hrN
  rw [HCC.out]
  have AV := Lib.hid (below_zero w1 N s r)
  have HS := Lib.hid (show _ ∧ _ ∧ _ ∧ _ from ⟨AW1.out.trans (AV.out.mono AW1.out.size), BA1.out.below AV.out BA1.out.lt, BZ1.out.below AV.out BZ1.out.lt, new_zero w1 N s r⟩)
  have hO : w.heap.size + 1 < w1.heap.size := BZ1.out.lt
  obtain ⟨O, hOO⟩ : ∃ O, O = w1.heap.size := ⟨_, rfl⟩
  have t1 : ¬ (C : Int) + 1 < 1 := by omega
  have t8 : ¬ (8 : Int) < (C : Int) + 1 := by omega
  have H24 := Lib.hid (show _ ∧ _ from ⟨t1, t8⟩)
  go_wp2_with fail
  clear a0 a1 a2
  have HT2 := H24
  clear H24 t1 t8
  go_loopw [24] (fun i wr => ∃ k : Nat, k ≤ C ∧ i = .int .i64 k ∧ cz N k ≤ 8 ∧ Below w.heap.size w wr ∧ Box 24 wr w.heap.size N s r ∧ Box 24 wr (w.heap.size + 1) 0 ⟨#[]⟩ ⟨#[]⟩ ∧ Box 24 wr w1.heap.size (cz N k : Nat) (copS s k) (copR N r k)) (fun i _ => C - (intOf i).toNat)
  case atStart => exact ⟨0, Nat.zero_le _, rfl, hN8, HS.out⟩
  case round =>
    clear HS AV
    obtain ⟨k, hk, rfl, hck, q1, q2, q3, q4⟩ := hrel
    have HQ := Lib.hid (show _ ∧ _ ∧ _ ∧ _ from ⟨q1, q2, q3, q4⟩)
    clear q1 q2 q3 q4
    obtain ⟨z, hz⟩ : ∃ z, z = cz N k := ⟨_, rfl⟩
    obtain ⟨S, hS⟩ : ∃ z, z = copS s k := ⟨_, rfl⟩
    obtain ⟨R0, hR⟩ : ∃ z, z = copR N r k := ⟨_, rfl⟩
    rw [← hz, ← hS, ← hR] at HQ
    obtain ⟨o0, o1, o2⟩ := HQ.out.2.2.2.c
    by_cases hkC : k < C
    · obtain ⟨a0, a1, a2⟩ := HQ.out.2.1.c
      have hzs : S.size = z ∧ R0.size = z * z := by rw [hz, hS, hR]; exact cop_size HV.out hck
      have hz8 : z ≤ 8 := by omega
      have hm : z * z ≤ 64 := Nat.mul_le_mul hz8 hz8
      have HZ := Lib.hid (show _ ∧ _ ∧ _ from ⟨hz, hS, hR⟩)
      have vz := Lib.hid (cop_valid HV.out k hck)
      rw [← hz, ← hS, ← hR] at vz
      clear hz hS hR
      have hsz := hzs.1
      have hrz := hzs.2
      have HZS := Lib.hid hzs
      have hsN : s.size ≤ 100 ∧ r.size ≤ 100 := by
        obtain ⟨_, a, b, _, _⟩ := validB_iff.1 HV.out
        rw [← Int.natCast_mul] at b
        have : N * N ≤ 64 := Nat.mul_le_mul hN8 hN8
        omega
      have HSN := Lib.hid hsN
      clear hzs hsz hrz hsN
      go_wp2_with fail
      refine (sumOf_any false z S R0 N s r _ (by have := HZS.out; omega) (by have := HZS.out; omega) (by have := HSN.out; omega) (by have := HSN.out; omega)).mono ?_
      rintro e w4 ⟨rfl, hb⟩
      have HQ4 := Lib.hid (show _ ∧ _ ∧ _ ∧ _ from ⟨HQ.out.1.trans (hb.mono HQ.out.1.size), HQ.out.2.1.below hb HQ.out.2.1.lt, HQ.out.2.2.1.below hb HQ.out.2.2.1.lt, HQ.out.2.2.2.below hb HQ.out.2.2.2.lt⟩)
      clear hb HQ a0 a1 a2 o0 o1 o2
      by_cases hn8 : z + N ≤ 8
      · have hok : okS z S R0 N s r = true := by rw [okS, vz.out, HV.out]; simp; omega
        obtain ⟨y1, y2, y3⟩ := s_yes (s := S) (r := R0) (t := s) (q := r) false (show cz N (k + 1) = z + N by rw [HZ.out.1, cz]) hok
        have y4 : copS s (k + 1) = S ++ s := by rw [HZ.out.2.1, copS]
        have y5 : copR N r (k + 1) = bR (sumRel false z R0 N r) (cz N (k + 1)) (cz N (k + 1)) := by rw [HZ.out.1, HZ.out.2.2, copR]
        rw [y1, y2, y3, hok, ← y4, ← y5]
        have hn9 : cz N (k + 1) ≤ 8 := by rw [cz, ← HZ.out.1]; exact hn8
        clear y1 y2 y3 y4 y5 hok
        obtain ⟨z2, hz2⟩ : ∃ z, z = cz N (k + 1) := ⟨_, rfl⟩
        obtain ⟨S2, hS2⟩ : ∃ z, z = copS s (k + 1) := ⟨_, rfl⟩
        obtain ⟨R2, hR2⟩ : ∃ z, z = copR N r (k + 1) := ⟨_, rfl⟩
        rw [← hz2, ← hS2, ← hR2]
        have HZ2 := Lib.hid (show _ ∧ _ ∧ _ from ⟨hz2, hS2, hR2⟩)
        have HN9 := Lib.hid hn9
        clear hz2 hS2 hR2 hn9
        have AV := Lib.hid (below_zero w4 z2 S2 R2)
        have BN := new_zero w4 z2 S2 R2
        have BO := HQ4.out.2.2.2.below AV.out HQ4.out.2.2.2.lt
        obtain ⟨W5, hW5⟩ : ∃ W5, W5 = w4.alloc (.cells #[.int .i64 z2, .string S2, .string R2] 24) := ⟨_, rfl⟩
        rw [← hW5] at BN BO
        have hne0 : w.heap.size ≠ w1.heap.size := by omega
        have hne1 : w.heap.size + 1 ≠ w1.heap.size := by omega
        have H5 := Lib.hid (show _ ∧ _ ∧ _ ∧ _ from ⟨HQ4.out.1.trans (AV.out.mono HQ4.out.1.size), HQ4.out.2.1.below AV.out HQ4.out.2.1.lt, HQ4.out.2.2.1.below AV.out HQ4.out.2.2.1.lt, BO⟩)
        rw [← hW5] at H5
        have R5 := Lib.hid (show _ ∧ _ ∧ _ ∧ _ from ⟨((H5.out.1.setCell (p := ⟨w1.heap.size, 0, none⟩) (by show w.heap.size ≤ w1.heap.size; omega) (.int .i64 z2)).setCell (p := ⟨w1.heap.size, 1, none⟩) (by show w.heap.size ≤ w1.heap.size; omega) (.string S2)).setCell (p := ⟨w1.heap.size, 2, none⟩) (by show w.heap.size ≤ w1.heap.size; omega) (.string R2), H5.out.2.1.others (u0 := .int .i64 z2) (u1 := .string S2) (u2 := .string R2) hne0, H5.out.2.2.1.others (u0 := .int .i64 z2) (u1 := .string S2) (u2 := .string R2) hne1, ((H5.out.2.2.2.set0 z2).set1 S2).set2 R2⟩)
        obtain ⟨n0, n1, n2⟩ := BN.c
        obtain ⟨o0, o1, o2⟩ := BO.c
        have g0 := BO.free 0
        have g1 := BO.free 1
        have g2 := BO.free 2
        have HW5 := Lib.hid hW5
        clear hW5 BN BO AV hne0 hne1
        go_upto_region 9 with (fail)
        rw [← HW5.out]
        go_wp2
        go_roundw
        case rel => exact ⟨k + 1, by omega, by go_num, HN9.out, by rw [← HZ2.out.1, ← HZ2.out.2.1, ← HZ2.out.2.2]; exact R5.out⟩
        case measure => simp [intOf]; omega
      · have hok : okS z S R0 N s r = false := by rw [okS]; simp; intros; omega
        obtain ⟨y1, y2, y3⟩ := s_no false hok
        rw [y1, y2, y3, hok]
        clear y1 y2 y3
        have HO : Hid (okC N s r ((C + 1 : Nat) : Int) = false) := by
          rw [Hid, HOK.out]
          refine decide_eq_false fun h => hn8 ?_
          have := cz_mono (N := N) (show k + 1 ≤ C by omega)
          rw [cz, ← HZ.out.1] at this
          omega
        have HE := Lib.hid (c_no HO.out)
        have AV := Lib.hid (below_zero w4 0 ⟨#[]⟩ ⟨#[]⟩)
        have BZ5 := Lib.hid (HQ4.out.2.2.1.below AV.out HQ4.out.2.2.1.lt)
        have AW5 := Lib.hid (HQ4.out.1.trans (AV.out.mono HQ4.out.1.size))
        clear hok
        obtain ⟨z0, z1, z2⟩ := BZ5.out.c
        have f0 := BZ5.out.free 0
        have f1 := BZ5.out.free 1
        have f2 := BZ5.out.free 2
        obtain ⟨e0, e1, e2⟩ := (((BZ5.out.set0 0).set1 ⟨#[]⟩).set2 ⟨#[]⟩).c
        have HF := Lib.hid (show _ ∧ _ ∧ _ from ⟨e0, e1, e2⟩)
        clear e0 e1 e2
        have R := Lib.hid (((AW5.out.setCell (p := ⟨w.heap.size + 1, 0, none⟩) (by simp) (.int .i64 0)).setCell (p := ⟨w.heap.size + 1, 1, none⟩) (by simp) (.string ⟨#[]⟩)).setCell (p := ⟨w.heap.size + 1, 2, none⟩) (by simp) (.string ⟨#[]⟩))
        go_wp2
        exact bodyPost_ret (v := .tuple #[.agg #[.int .i64 0, .string ⟨#[]⟩, .string ⟨#[]⟩], .bool false]) (by simp [results, Tryd.results24, go_sem, HF.out.1, HF.out.2.1, HF.out.2.2]) rfl ⟨by rw [HE.out.1, HE.out.2.1, HE.out.2.2, HO.out], R.out⟩
    · obtain rfl : C = k := by omega
      have HO : Hid (okC N s r ((C + 1 : Nat) : Int) = true) := by rw [Hid, HOK.out]; exact decide_eq_true hck
      obtain ⟨y1, y2, y3⟩ := c_yes HO.out
      have HE : Hid (cN N s r ((C + 1 : Nat) : Int) = (z : Int) ∧ cS N s r ((C + 1 : Nat) : Int) = S ∧ cR N s r ((C + 1 : Nat) : Int) = R0) := ⟨by rw [y1, hz], by rw [y2, hS], by rw [y3, hR]⟩
      have BZ5 := Lib.hid HQ.out.2.2.1
      have AW5 := Lib.hid HQ.out.1
      clear y1 y2 y3 hz hS hR
      obtain ⟨z0, z1, z2⟩ := BZ5.out.c
      have f0 := BZ5.out.free 0
      have f1 := BZ5.out.free 1
      have f2 := BZ5.out.free 2
      obtain ⟨e0, e1, e2⟩ := (((BZ5.out.set0 z).set1 S).set2 R0).c
      have HF := Lib.hid (show _ ∧ _ ∧ _ from ⟨e0, e1, e2⟩)
      clear e0 e1 e2
      have R := Lib.hid (((AW5.out.setCell (p := ⟨w.heap.size + 1, 0, none⟩) (by simp) (.int .i64 z)).setCell (p := ⟨w.heap.size + 1, 1, none⟩) (by simp) (.string S)).setCell (p := ⟨w.heap.size + 1, 2, none⟩) (by simp) (.string R0))
      go_wp2
      exact bodyPost_ret (v := .tuple #[.agg #[.int .i64 z, .string S, .string R0], .bool true]) (by simp [results, Tryd.results24, go_sem, HF.out.1, HF.out.2.1, HF.out.2.2]) rfl ⟨by rw [HE.out.1, HE.out.2.1, HE.out.2.2, HO.out], R.out⟩

set_option maxHeartbeats 6400000 in
set_option maxRecDepth 100000 in
theorem specCopies_any (n : Int) (s r : ByteArray) (c : Int) (w : World) (hwf : (Lit.int .i64 n).wf = true) (hs : s.size ≤ 9223372036854775807) (hr : r.size ≤ 9223372036854775807) :
    Calls Tryd.prog 25 #[.agg #[.int .i64 n, .string s, .string r], .int .i64 c] w fun e w' => e = .returned (.tuple #[.agg #[.int .i64 (cN n s r c), .string (cS n s r c), .string (cR n s r c)], .bool (okC n s r c)]) ∧ Below w.heap.size w w' := by
  have BA : Hid (Box 24 ((w.alloc (.cells #[.int .i64 n, .string s, .string r] 24)).alloc (.cells #[.int .i64 0, .string ⟨#[]⟩, .string ⟨#[]⟩] 24)) w.heap.size n s r) := (Box.new 24 w w.heap.size rfl n s r).below ((Below.refl (w.heap.size + 1) _).alloc (by simp) _) (by omega)
  have BZ : Hid (Box 24 ((w.alloc (.cells #[.int .i64 n, .string s, .string r] 24)).alloc (.cells #[.int .i64 0, .string ⟨#[]⟩, .string ⟨#[]⟩] 24)) (w.heap.size + 1) 0 ⟨#[]⟩ ⟨#[]⟩) := Box.new 24 _ (w.heap.size + 1) (by simp) 0 ⟨#[]⟩ ⟨#[]⟩
  have AW : Hid (Below w.heap.size w ((w.alloc (.cells #[.int .i64 n, .string s, .string r] 24)).alloc (.cells #[.int .i64 0, .string ⟨#[]⟩, .string ⟨#[]⟩] 24))) := ((Below.refl _ _).alloc (Nat.le_refl _) _).alloc (by simp) _
  have HE0 : Hid (validB n s r = false ∨ c < 1 ∨ 8 < c → okC n s r c = false) := fun h => by
    rw [okC]; rcases h with h | h
    · rw [h]; rfl
    · rw [decide_eq_false (by omega), Bool.and_false]
  go_enter Tryd.func25, Tryd.ntmps25
  go_wp2_with fail
  refine (StructureValid_any n s r _ hs hr).mono ?_
  rintro e w1 ⟨rfl, hw⟩
  have AW1 : Hid (Below w.heap.size w w1) := AW.out.trans (hw.mono AW.out.size)
  have BA1 := Lib.hid (BA.out.below hw BA.out.lt)
  have BZ1 := Lib.hid (BZ.out.below hw BZ.out.lt)
  clear hw AW BA BZ
  cases hv : validB n s r with
  | false =>
    have HO : Hid (okC n s r c = false) := HE0.out (.inl hv)
    have HE := Lib.hid (c_no HO.out)
    clear hv
    obtain ⟨z0, z1, z2⟩ := BZ1.out.c
    have f0 := BZ1.out.free 0
    have f1 := BZ1.out.free 1
    have f2 := BZ1.out.free 2
    obtain ⟨e0, e1, e2⟩ := (((BZ1.out.set0 0).set1 ⟨#[]⟩).set2 ⟨#[]⟩).c
    have HF := Lib.hid (show _ ∧ _ ∧ _ from ⟨e0, e1, e2⟩)
    clear e0 e1 e2
    have R := Lib.hid (((AW1.out.setCell (p := ⟨w.heap.size + 1, 0, none⟩) (by simp) (.int .i64 0)).setCell (p := ⟨w.heap.size + 1, 1, none⟩) (by simp) (.string ⟨#[]⟩)).setCell (p := ⟨w.heap.size + 1, 2, none⟩) (by simp) (.string ⟨#[]⟩))
    go_wp2
    exact bodyPost_ret (v := .tuple #[.agg #[.int .i64 0, .string ⟨#[]⟩, .string ⟨#[]⟩], .bool false]) (by simp [results, Tryd.results25, go_sem, HF.out.1, HF.out.2.1, HF.out.2.2]) rfl ⟨by rw [HE.out.1, HE.out.2.1, HE.out.2.2, HO.out], R.out⟩
  | true =>
  obtain ⟨a0, a1, a2⟩ := BA1.out.c
  go_wp2_with fail
  refine (l1In_any c 1 8 _).mono ?_
  rintro e w2 ⟨rfl, rfl⟩
  cases hib : inB c 1 8 with
  | false =>
    have hcc : ¬ (1 ≤ c ∧ c ≤ 8) := fun h => by rw [inB_true h.1 h.2] at hib; cases hib
    have HO : Hid (okC n s r c = false) := HE0.out (.inr (by omega))
    have HE := Lib.hid (c_no HO.out)
    clear hib hv hcc
    obtain ⟨z0, z1, z2⟩ := BZ1.out.c
    have f0 := BZ1.out.free 0
    have f1 := BZ1.out.free 1
    have f2 := BZ1.out.free 2
    obtain ⟨e0, e1, e2⟩ := (((BZ1.out.set0 0).set1 ⟨#[]⟩).set2 ⟨#[]⟩).c
    have HF := Lib.hid (show _ ∧ _ ∧ _ from ⟨e0, e1, e2⟩)
    clear e0 e1 e2
    have R := Lib.hid (((AW1.out.setCell (p := ⟨w.heap.size + 1, 0, none⟩) (by simp) (.int .i64 0)).setCell (p := ⟨w.heap.size + 1, 1, none⟩) (by simp) (.string ⟨#[]⟩)).setCell (p := ⟨w.heap.size + 1, 2, none⟩) (by simp) (.string ⟨#[]⟩))
    go_wp2
    exact bodyPost_ret (v := .tuple #[.agg #[.int .i64 0, .string ⟨#[]⟩, .string ⟨#[]⟩], .bool false]) (by simp [results, Tryd.results25, go_sem, HF.out.1, HF.out.2.1, HF.out.2.2]) rfl ⟨by rw [HE.out.1, HE.out.2.1, HE.out.2.2, HO.out], R.out⟩
  | true =>
  have hcc : 1 ≤ c ∧ c ≤ 8 := by simpa [inB] using hib
  obtain ⟨N, rfl, hN1, hN8, hsN, hrN⟩ := valid_size hv
  obtain ⟨C, rfl⟩ : ∃ C : Nat, c = ((C + 1 : Nat) : Int) := ⟨c.toNat - 1, by omega⟩
  have hC : C < 8 := by omega
  have HOK := Lib.hid (okC_iff hv hC)
  have HV := Lib.hid hv
  have hm1 : (N : Int) * ((C + 1 : Nat) : Int) = (cz N C : Nat) := by rw [cz_mul, Int.natCast_mul]
  have hm2 : cz N C ≤ 8 * 8 := by rw [cz_mul]; exact Nat.mul_le_mul hN8 (by omega)
  obtain ⟨c, hc⟩ : ∃ c : Int, c = ((C + 1 : Nat) : Int) := ⟨_, rfl⟩
  rw [← hc] at HOK hm1 ⊢
  have hc1 : 1 ≤ c := by omega
  have hc8 : c ≤ 8 := by omega
  have hp0 : 0 ≤ (N : Int) * c := by rw [hm1]; omega
  have hp1 : (N : Int) * c ≤ 64 := by rw [hm1]; omega
  have HM1 := Lib.hid hm1
  have HCC := Lib.hid hc
  have HSZ := Lib.hid (show _ ∧ _ from ⟨hsN, hrN⟩)
  clear hib hv hs hr HE0 hcc hsN hrN hm1 hc
  by_cases hbig : (N : Int) * c ≤ 8
  case neg =>
    have HO : Hid (okC N s r c = false) := by rw [Hid, HOK.out]; exact decide_eq_false (by have := HM1.out; omega)
    have HE := Lib.hid (c_no HO.out)
    obtain ⟨z0, z1, z2⟩ := BZ1.out.c
    have f0 := BZ1.out.free 0
    have f1 := BZ1.out.free 1
    have f2 := BZ1.out.free 2
    obtain ⟨e0, e1, e2⟩ := (((BZ1.out.set0 0).set1 ⟨#[]⟩).set2 ⟨#[]⟩).c
    have HF := Lib.hid (show _ ∧ _ ∧ _ from ⟨e0, e1, e2⟩)
    clear e0 e1 e2
    have R := Lib.hid (((AW1.out.setCell (p := ⟨w.heap.size + 1, 0, none⟩) (by simp) (.int .i64 0)).setCell (p := ⟨w.heap.size + 1, 1, none⟩) (by simp) (.string ⟨#[]⟩)).setCell (p := ⟨w.heap.size + 1, 2, none⟩) (by simp) (.string ⟨#[]⟩))
    go_wp2
    exact bodyPost_ret (v := .tuple #[.agg #[.int .i64 0, .string ⟨#[]⟩, .string ⟨#[]⟩], .bool false]) (by simp [results, Tryd.results25, go_sem, HF.out.1, HF.out.2.1, HF.out.2.2]) rfl ⟨by rw [← HCC.out, HE.out.1, HE.out.2.1, HE.out.2.2, HO.out], R.out⟩
  have hcz : cz N C ≤ 8 := by have := HM1.out; omega
  have AV := Lib.hid (below_zero w1 N s r)
  have HS := Lib.hid (show _ ∧ _ ∧ _ ∧ _ from ⟨AW1.out.trans (AV.out.mono AW1.out.size), BA1.out.below AV.out BA1.out.lt, BZ1.out.below AV.out BZ1.out.lt, new_zero w1 N s r⟩)
  have hO : w.heap.size + 1 < w1.heap.size := BZ1.out.lt
  go_wp2_with fail
  clear a0 a1 a2
  go_loopw [7] (fun i wr => ∃ k : Nat, k ≤ C ∧ i = .int .i64 ((k : Int) + 1) ∧ Below w.heap.size w wr ∧ Box 24 wr w.heap.size N s r ∧ Box 24 wr (w.heap.size + 1) 0 ⟨#[]⟩ ⟨#[]⟩ ∧ Box 24 wr w1.heap.size (cz N k : Nat) (copS s k) (copR N r k)) (fun i _ => C + 1 - (intOf i).toNat)
  case atStart => exact ⟨0, Nat.zero_le _, rfl, HS.out⟩
  case round =>
    clear HS AV hbig hp0 hp1
    obtain ⟨k, hk, rfl, q1, q2, q3, q4⟩ := hrel
    have hck : cz N k ≤ 8 := Nat.le_trans (cz_mono hk) hcz
    have HQ := Lib.hid (show _ ∧ _ ∧ _ ∧ _ from ⟨q1, q2, q3, q4⟩)
    clear q1 q2 q3 q4
    obtain ⟨z, hz⟩ : ∃ z, z = cz N k := ⟨_, rfl⟩
    obtain ⟨S, hS⟩ : ∃ z, z = copS s k := ⟨_, rfl⟩
    obtain ⟨R0, hR⟩ : ∃ z, z = copR N r k := ⟨_, rfl⟩
    rw [← hz, ← hS, ← hR] at HQ
    obtain ⟨o0, o1, o2⟩ := HQ.out.2.2.2.c
    have hceq : c = (C : Int) + 1 := by have := HCC.out; omega
    by_cases hkC : k < C
    · have hlt : (k : Int) + 1 < c := by omega
      obtain ⟨a0, a1, a2⟩ := HQ.out.2.1.c
      have hzs : S.size = z ∧ R0.size = z * z := by rw [hz, hS, hR]; exact cop_size HV.out hck
      have HZ := Lib.hid (show _ ∧ _ ∧ _ from ⟨hz, hS, hR⟩)
      have hz8 : z ≤ 8 := by omega
      have hn9 : cz N (k + 1) ≤ 8 := Nat.le_trans (cz_mono (by omega)) hcz
      have HN9 := Lib.hid hn9
      have HZS := Lib.hid hzs
      clear hz hS hR hzs hceq hn9
      go_wp2_with fail
      refine (l10Sum_any false z S R0 N s r (cz N (k + 1)) _ hz8 hN8 (by rw [HZ.out.1, cz]) HN9.out HZS.out.1 HZS.out.2 HSZ.out.1 HSZ.out.2).mono ?_
      rintro e w4 ⟨rfl, hb⟩
      have HQ4 := Lib.hid (show _ ∧ _ ∧ _ ∧ _ from ⟨HQ.out.1.trans (hb.mono HQ.out.1.size), HQ.out.2.1.below hb HQ.out.2.1.lt, HQ.out.2.2.1.below hb HQ.out.2.2.1.lt, HQ.out.2.2.2.below hb HQ.out.2.2.2.lt⟩)
      clear hb HQ a0 a1 a2 o0 o1 o2
      have y4 : copS s (k + 1) = S ++ s := by rw [HZ.out.2.1, copS]
      have y5 : copR N r (k + 1) = bR (sumRel false z R0 N r) (cz N (k + 1)) (cz N (k + 1)) := by rw [HZ.out.1, HZ.out.2.2, copR]
      rw [← y4, ← y5]
      clear y4 y5
      obtain ⟨z2, hz2⟩ : ∃ z, z = cz N (k + 1) := ⟨_, rfl⟩
      obtain ⟨S2, hS2⟩ : ∃ z, z = copS s (k + 1) := ⟨_, rfl⟩
      obtain ⟨R2, hR2⟩ : ∃ z, z = copR N r (k + 1) := ⟨_, rfl⟩
      rw [← hz2, ← hS2, ← hR2]
      have HZ2 := Lib.hid (show _ ∧ _ ∧ _ from ⟨hz2, hS2, hR2⟩)
      clear hz2 hS2 hR2
      have hne0 : w.heap.size ≠ w1.heap.size := by omega
      have hne1 : w.heap.size + 1 ≠ w1.heap.size := by omega
      have BO := HQ4.out.2.2.2
      have R5 := Lib.hid (show _ ∧ _ ∧ _ ∧ _ from ⟨((HQ4.out.1.setCell (p := ⟨w1.heap.size, 0, none⟩) (by show w.heap.size ≤ w1.heap.size; omega) (.int .i64 z2)).setCell (p := ⟨w1.heap.size, 1, none⟩) (by show w.heap.size ≤ w1.heap.size; omega) (.string S2)).setCell (p := ⟨w1.heap.size, 2, none⟩) (by show w.heap.size ≤ w1.heap.size; omega) (.string R2), HQ4.out.2.1.others (u0 := .int .i64 z2) (u1 := .string S2) (u2 := .string R2) hne0, HQ4.out.2.2.1.others (u0 := .int .i64 z2) (u1 := .string S2) (u2 := .string R2) hne1, ((BO.set0 z2).set1 S2).set2 R2⟩)
      obtain ⟨o0, o1, o2⟩ := BO.c
      have g0 := BO.free 0
      have g1 := BO.free 1
      have g2 := BO.free 2
      clear BO hne0 hne1
      go_wp2
      go_roundw
      case rel => exact ⟨k + 1, by omega, by go_num, by rw [← HZ2.out.1, ← HZ2.out.2.1, ← HZ2.out.2.2]; exact R5.out⟩
      case measure => simp [intOf]; omega
    · obtain rfl : C = k := by omega
      have hlt : ¬ (C : Int) + 1 < c := by omega
      have HO : Hid (okC N s r c = true) := by rw [Hid, HOK.out]; exact decide_eq_true hck
      have HE : Hid (cN N s r c = (z : Int) ∧ cS N s r c = S ∧ cR N s r c = R0) := by
        have h := HO.out
        rw [HCC.out] at h ⊢
        obtain ⟨y1, y2, y3⟩ := c_yes h
        exact ⟨by rw [y1, hz], by rw [y2, hS], by rw [y3, hR]⟩
      have BZ5 := Lib.hid HQ.out.2.2.1
      have AW5 := Lib.hid HQ.out.1
      clear hz hS hR hceq
      obtain ⟨z0, z1, z2⟩ := BZ5.out.c
      have f0 := BZ5.out.free 0
      have f1 := BZ5.out.free 1
      have f2 := BZ5.out.free 2
      obtain ⟨e0, e1, e2⟩ := (((BZ5.out.set0 z).set1 S).set2 R0).c
      have HF := Lib.hid (show _ ∧ _ ∧ _ from ⟨e0, e1, e2⟩)
      clear e0 e1 e2
      have R := Lib.hid (((AW5.out.setCell (p := ⟨w.heap.size + 1, 0, none⟩) (by simp) (.int .i64 z)).setCell (p := ⟨w.heap.size + 1, 1, none⟩) (by simp) (.string S)).setCell (p := ⟨w.heap.size + 1, 2, none⟩) (by simp) (.string R0))
      go_wp2
      exact bodyPost_ret (v := .tuple #[.agg #[.int .i64 z, .string S, .string R0], .bool true]) (by simp [results, Tryd.results25, go_sem, HF.out.1, HF.out.2.1, HF.out.2.2]) rfl ⟨by rw [show ((C : Int) + 1) = c from by have := HCC.out; omega, HE.out.1, HE.out.2.1, HE.out.2.2, HO.out], R.out⟩

theorem specE (n : Int) (s r : ByteArray) (c : Int) (hn : (Lit.int .i64 n).wf = true) (_ : (Lit.int .i64 c).wf = true) : s.size + r.size ≤ 1048576 → ∀ (w : World),
    Calls Tryd.prog 25 #[.agg #[.int .i64 n, .string s, .string r], .int .i64 c] w fun e w' => e = .returned (.tuple #[.agg #[.int .i64 (cN n s r c), .string (cS n s r c), .string (cR n s r c)], .bool (okC n s r c)]) ∧ Below w.heap.size w w' :=
  fun h w => specCopies_any n s r c w hn (by omega) (by omega)
theorem implE (n : Int) (s r : ByteArray) (c : Int) (_ : (Lit.int .i64 n).wf = true) (_ : (Lit.int .i64 c).wf = true) : s.size + r.size ≤ 1048576 → ∀ (w : World),
    Calls Tryd.prog 24 #[.agg #[.int .i64 n, .string s, .string r], .int .i64 c] w fun e w' => e = .returned (.tuple #[.agg #[.int .i64 (cN n s r c), .string (cS n s r c), .string (cR n s r c)], .bool (okC n s r c)]) ∧ Below w.heap.size w w' :=
  fun h w => implCopies_any n s r c w (by omega) (by omega)
end Go.Proofs.YtefneihlgclkbaaDoor.copies
