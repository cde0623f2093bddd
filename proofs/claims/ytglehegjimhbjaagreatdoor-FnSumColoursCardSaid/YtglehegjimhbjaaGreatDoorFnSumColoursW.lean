/- FnSumColours: the walk. -/
import Derived.Test.YtglehegjimhbjaaGreatDoorDrawG
import Derived.Test.YtglehegjimhbjaaGreatDoorSumC
import Derived.Test.YtglehegjimhbjaaGreatDoorPkE
import Derived.Test.YtglehegjimhbjaaGreatDoorRow
namespace Go.Proofs.YtglehegjimhbjaaGreatDoor.fnSumColoursW
set_option linter.unusedVariables false
set_option linter.unusedSimpArgs false
open Go.ChangeShapes Go.WideShapes Go.ChangeAt Go.RowKit
open Go.Proofs.YtglehegjimhbjaaGreatDoor.flow Go.Proofs.YtglehegjimhbjaaGreatDoor.lib Go.Proofs.YtglehegjimhbjaaGreatDoor.st Go.Proofs.YtglehegjimhbjaaGreatDoor.draw Go.Proofs.YtglehegjimhbjaaGreatDoor.base Go.Proofs.YtglehegjimhbjaaGreatDoor.make Go.Proofs.YtglehegjimhbjaaGreatDoor.prod Go.Proofs.YtglehegjimhbjaaGreatDoor.sum Go.Proofs.YtglehegjimhbjaaGreatDoor.val Go.Proofs.YtglehegjimhbjaaGreatDoor.assoc Go.Proofs.YtglehegjimhbjaaGreatDoor.sumc
/-- bytes that came in may be drawn from -/
theorem byt_of_row {w : World} {a : Option Addr} {n c : Nat} {zs : List Int} (h : row.IsRow .u8 w a n c zs) : Byt w w.heap.size a n ∧ n ≤ c ∧ c ≤ 9223372036854775807 := by
  rcases h with ⟨rfl, rfl, rfl, rfl⟩ | ⟨x, rfl, hl, hm, hz, hcell, hwf⟩
  · exact ⟨.inl rfl, Nat.le_refl _, by omega⟩
  · refine ⟨?_, hl, hm⟩
    by_cases h0 : n = 0
    · exact .inl h0
    · obtain ⟨b, off, spot⟩ := x
      have hc := hcell 0 (by omega)
      have hspot : spot = none := by simpa [Addr.add] using World.cell?_spot hc
      subst hspot
      have hlt := World.block_lt_of_cell? w _ hc
      refine .inr ⟨b, off, rfl, by simpa [Addr.add] using hlt, fun i hi => ?_⟩
      have hci := hcell i (by omega)
      have hw := hwf (zs.getD i 0) (by rw [List.getD_eq_getElem?_getD, List.getElem?_eq_getElem (by omega)]; exact List.getElem_mem _)
      have hb : 0 ≤ zs.getD i 0 ∧ zs.getD i 0 ≤ 255 := by
        generalize zs.getD i 0 = z at hw ⊢
        simp only [Lit.wf, IntKind.min, IntKind.max, IntKind.signed, IntKind.bits, Bool.and_eq_true, decide_eq_true_eq] at hw
        simp at hw
        omega
      refine ⟨(zs.getD i 0).toNat, by omega, ?_⟩
      rw [show (⟨b, off, none⟩ : Addr).add i = ⟨b, off + i, none⟩ from by simp only [Addr.add]; split <;> simp [*]] at hci
      rw [hci, show (((zs.getD i 0).toNat : Nat) : Int) = zs.getD i 0 from by omega]

theorem neq_struct (n : Int) (s r : ByteArray) (w : World) : (binOp .neq 24 (.agg #[.int .i64 n, .string s, .string r]) (.agg #[.int .i64 n, .string s, .string r])).run Tryz.prog w = .ok (.bool false) w := by
  have u3 := Tryz.underlying3
  have a3 := Tryz.isAgg3
  have z3 := Tryz.sizeOf3
  have u4 := Tryz.underlying9
  have a4 := Tryz.isAgg9
  have z4 := Tryz.sizeOf9
  have hS : Tryz.prog.underlying 24 = some (.struct (Tryz.prog.fieldsOf 24)) := by kernel_rfl
  have hp : Tryz.prog.stoodInHeld 24 = false := by kernel_rfl
  rw [run_neq_struct, show (10000 : Nat) = 9999 + 1 from rfl, run_equalIn_agg w 9999 24 _ _ hS hp]
  simp only [Program.fieldsOf, Tryz.underlying24]
  go_simp
/-- the sums -/
theorem both {n : Int} {s r : ByteArray} {m : Int} {t q : ByteArray} (hn : (Lit.int .i64 n).wf = true) (hm : (Lit.int .i64 m).wf = true) (hs : s.size ≤ 100) (hr : r.size ≤ 100) (ht : t.size ≤ 100) (hq : q.size ≤ 100) :
    (∃ (x : Int) (y z : ByteArray), SC 34 n s r m t q x y z false ∧ SC 35 n s r m t q x y z false) ∨
    (∃ (N M K : Nat) (S1 R1 S2 R2 : ByteArray), n = N ∧ m = M ∧ (1 ≤ N ∧ N ≤ K ∧ 1 ≤ M ∧ M ≤ K ∧ K ≤ 8) ∧ (S1.size ≤ 200 ∧ R1.size ≤ 200 ∧ S2.size ≤ 200 ∧ R2.size ≤ 200) ∧ SC 34 n s r m t q K S1 R1 true ∧ SC 35 n s r m t q K S1 R1 true ∧ SC 34 m t q n s r K S2 R2 true ∧
      (∀ (x : Nat) (rad : Int), x < N → 0 ≤ rad → rad < 4 → same.sameR N s r x K S1 R1 x rad = true) ∧ (∀ (y : Nat) (rad : Int), y < M → 0 ≤ rad → rad < 4 → same.sameR M t q y K S1 R1 ((y : Int) + (N : Int)) rad = true) ∧
      (∀ rad : Int, 0 ≤ rad → rad < 4 → sbs.sbsR K S1 R1 K S2 R2 rad = true) ∧ specd.sameR K S1 R1 K S2 R2 = true) := by
  have c1 := sc_dis (n := n) (s := s) (r := r) (m := m) (t := t) (q := q) (by omega) (by omega) (by omega) (by omega)
  have c3 := sc_dis (n := m) (s := t) (r := q) (m := n) (t := s) (q := r) (by omega) (by omega) (by omega) (by omega)
  have c2 : SC 35 n s r m t q (sn n s r m t q) (ss n s r m t q) (sr false n s r m t q) (okS n s r m t q) := fun W => specDisjointSum_any n s r m t q W hn hm (by omega) (by omega) (by omega) (by omega)
  cases hk : okS n s r m t q with
  | false =>
    rw [hk] at c1 c2
    exact .inl ⟨_, _, _, c1, c2⟩
  | true =>
    have z1 := sum_size false n s r m t q
    have z2 := sum_size false m t q n s r
    obtain ⟨hv1, hv2, h8⟩ : validB n s r = true ∧ validB m t q = true ∧ n + m ≤ 8 := by simpa [okS] using hk
    have hk2 : okS m t q n s r = true := by simp [okS, hv1, hv2]; omega
    obtain ⟨N, rfl, hN1, hN8, hsN, hrN⟩ := valid_size hv1
    obtain ⟨M, rfl, hM1, hM8, hsM, hrM⟩ := valid_size hv2
    have hf := fact hv1 hv2 (by omega)
    obtain ⟨x1, x2, x3⟩ := s_yes (K := N + M) false rfl hk
    obtain ⟨y1, y2, y3⟩ := s_yes (K := N + M) false (by omega) hk2
    rw [x2, x3] at z1
    rw [y2, y3] at z2
    rw [x1, x2, x3, hk] at c1 c2
    rw [y1, y2, y3, hk2] at c3
    have er : bR (sumRel false M q N r) (N + M) (N + M) = rr M q N r := by rw [rr, Nat.add_comm M N]
    rw [er] at z2 c3
    refine .inr ⟨N, M, N + M, s ++ t, rr N r M q, t ++ s, rr M q N r, rfl, rfl, ⟨hN1, by omega, hM1, by omega, by omega⟩, ⟨z1.1, z1.2, z2.1, z2.2⟩, c1, c2, c3, hf.l, fun y rad hy h0 h4 => ?_, hf.b, hf.c⟩
    have := hf.r' y rad hy h0 h4
    rw [show ((N + y : Nat) : Int) = (y : Int) + N by omega] at this
    exact this

set_option maxHeartbeats 40000000 in
set_option maxRecDepth 100000 in
theorem walk (a0 : Option Addr) (n0 c0 : Nat) (l0 : List Int) (a1 : Option Addr) (n1 c1 : Nat) (l1 : List Int) (w : World) (h0 : row.IsRow .u8 w a0 n0 c0 l0) (h1 : row.IsRow .u8 w a1 n1 c1 l1) :
    Calls Tryz.prog 8 #[.slice a0 n0 c0, .slice a1 n1 c1] w fun e w' => e = .returned (.bool true) ∧ Below w.heap.size w w' := by
  obtain ⟨by0, nc0, cm0⟩ := byt_of_row h0
  have BY0 := Lib.hid by0
  clear by0 h0 h1
  by_cases hg0 : 1048576 < n0
  · go_enter Tryz.func8, Tryz.ntmps8
    go_wp2
    go_ret
    exact ⟨rfl, Below.refl _ _⟩
  by_cases hg1 : 1048576 < n1
  · go_enter Tryz.func8, Tryz.ntmps8
    go_wp2
    go_ret
    exact ⟨rfl, Below.refl _ _⟩
  go_enter Tryz.func8, Tryz.ntmps8
  have AW_0 : Hid (Below w.heap.size w w) := Below.refl _ _
  go_wp2_with fail
  refine (drawDisjointSum_any a0 n0 c0 _ BY0.out nc0 cm0).mono ?_
  rintro e w_1 ⟨n, s, r, m, t, q, rfl, hnw, hs, hr, hmw, ht, hq, hb⟩
  have hbn := hb
  have AW_1 : Hid (Below w.heap.size w w_1) := AW_0.out.trans (hbn.mono AW_0.out.size)
  clear hbn AW_0 
  have FA_1 : Hid (Box 24 (w_1.alloc (.cells #[.int .i64 n, .string s, .string r] 24)) (w_1.heap.size) n s r) := Box.new _ w_1 (w_1.heap.size) (by simp) _ _ _
  have FA_1 := Lib.hid (FA_1.out.below ((Below.refl (w_1.heap.size + 1) _).alloc (by simp) (.cells #[.int .i64 m, .string t, .string q] 24)) (by omega))
  have FB_1 : Hid (Box 24 ((w_1.alloc (.cells #[.int .i64 n, .string s, .string r] 24)).alloc (.cells #[.int .i64 m, .string t, .string q] 24)) (w_1.heap.size + 1) m t q) := Box.new _ (w_1.alloc (.cells #[.int .i64 n, .string s, .string r] 24)) (w_1.heap.size + 1) (by simp) _ _ _
  clear hb
  obtain ⟨x, y, z, hc1, hc2⟩ | ⟨N, M, K, S1, R1, S2, R2, rfl, rfl, hk, hz, hc1, hc2, hc3, hl, hrr, hsb, hco⟩ := both hnw hmw hs hr ht hq
  · have HC1 := Lib.hid hc1
    have HC2 := Lib.hid hc2
    clear hc1 hc2
    obtain ⟨a0, a1, a2⟩ := Box.c FA_1.out
    obtain ⟨b0, b1, b2⟩ := Box.c FB_1.out
    go_wp2_with fail
    clear a0 a1 a2 b0 b1 b2
    refine ((HC1).out _).mono ?_
    rintro e w_2 ⟨rfl, hb⟩
    have hbn : Below w_1.heap.size w_1 w_2 := (((Below.refl w_1.heap.size w_1).alloc (by simp) (.cells #[.int .i64 n, .string s, .string r] 24)).alloc (by simp) (.cells #[.int .i64 m, .string t, .string q] 24)).trans (hb.mono (by simp <;> omega))
    have FA_2 := Lib.hid (FA_1.out.below hb (by simp <;> omega))
    have FB_2 := Lib.hid (FB_1.out.below hb (by simp <;> omega))
    have AW_2 : Hid (Below w.heap.size w w_2) := AW_1.out.trans (hbn.mono AW_1.out.size)
    clear hbn AW_1 FA_1 FB_1
    clear hb
    have FC_2 : Hid (Box 24 (w_2.alloc (.cells #[.int .i64 x, .string y, .string z] 24)) (w_2.heap.size) x y z) := Box.new _ w_2 (w_2.heap.size) (by simp) _ _ _
    obtain ⟨a0, a1, a2⟩ := Box.c (FA_2.out.below ((Below.refl w_2.heap.size w_2).alloc (by simp) (.cells #[.int .i64 x, .string y, .string z] 24)) FA_2.out.lt)
    obtain ⟨a_0, a_1, a_2⟩ := Box.c FA_2.out
    have alt := FA_2.out.lt
    obtain ⟨b0, b1, b2⟩ := Box.c (FB_2.out.below ((Below.refl w_2.heap.size w_2).alloc (by simp) (.cells #[.int .i64 x, .string y, .string z] 24)) FB_2.out.lt)
    obtain ⟨b_0, b_1, b_2⟩ := Box.c FB_2.out
    have blt := FB_2.out.lt
    go_wp2_with fail
    clear a0 a1 a2 a_0 a_1 a_2 alt b0 b1 b2 b_0 b_1 b_2 blt
    refine ((HC2).out _).mono ?_
    rintro e w_3 ⟨rfl, hb⟩
    have hbn : Below w_2.heap.size w_2 w_3 := ((Below.refl w_2.heap.size w_2).alloc (by simp) (.cells #[.int .i64 x, .string y, .string z] 24)).trans (hb.mono (by simp))
    have FA_3 := Lib.hid (FA_2.out.below hbn FA_2.out.lt)
    have FB_3 := Lib.hid (FB_2.out.below hbn FB_2.out.lt)
    have FC_3 := Lib.hid (FC_2.out.below hb (by simp))
    have AW_3 : Hid (Below w.heap.size w w_3) := AW_2.out.trans (hbn.mono AW_2.out.size)
    clear hbn AW_2 FA_2 FB_2 FC_2
    clear hb
    have FD_3 : Hid (Box 24 (w_3.alloc (.cells #[.int .i64 x, .string y, .string z] 24)) (w_3.heap.size) x y z) := Box.new _ w_3 (w_3.heap.size) (by simp) _ _ _
    obtain ⟨c0, c1, c2⟩ := Box.c (FC_3.out.below ((Below.refl w_3.heap.size w_3).alloc (by simp) (.cells #[.int .i64 x, .string y, .string z] 24)) FC_3.out.lt)
    obtain ⟨c_0, c_1, c_2⟩ := Box.c FC_3.out
    have clt := FC_3.out.lt
    obtain ⟨d0, d1, d2⟩ := Box.c FD_3.out
    have q1 := neq_struct x y z
    have q2 := eq_struct x y z
    go_wp2
    go_ret
    exact ⟨rfl, AW_3.out.trans (((Below.refl w_3.heap.size w_3).alloc (by simp) (.cells #[.int .i64 x, .string y, .string z] 24)).mono AW_3.out.size)⟩
  · have HC1 := Lib.hid hc1
    have HC2 := Lib.hid hc2
    have HC3 := Lib.hid hc3
    have HL := Lib.hid hl
    have HR := Lib.hid hrr
    have HB := Lib.hid hsb
    have HO := Lib.hid hco
    have HZ := Lib.hid (show _ ∧ _ from ⟨hz, show _ ∧ _ ∧ _ ∧ _ from ⟨hs, hr, ht, hq⟩⟩)
    obtain ⟨k1, k2, k3, k4, k5⟩ := hk
    clear hc1 hc2 hc3 hl hrr hsb hco hz hnw hmw hs hr ht hq
    obtain ⟨a0, a1, a2⟩ := Box.c FA_1.out
    obtain ⟨b0, b1, b2⟩ := Box.c FB_1.out
    go_wp2_with fail
    clear a0 a1 a2 b0 b1 b2
    refine ((HC1).out _).mono ?_
    rintro e w_2 ⟨rfl, hb⟩
    have hbn : Below w_1.heap.size w_1 w_2 := (((Below.refl w_1.heap.size w_1).alloc (by simp) (.cells #[.int .i64 N, .string s, .string r] 24)).alloc (by simp) (.cells #[.int .i64 M, .string t, .string q] 24)).trans (hb.mono (by simp <;> omega))
    have FA_2 := Lib.hid (FA_1.out.below hb (by simp <;> omega))
    have FB_2 := Lib.hid (FB_1.out.below hb (by simp <;> omega))
    have AW_2 : Hid (Below w.heap.size w w_2) := AW_1.out.trans (hbn.mono AW_1.out.size)
    clear hbn AW_1 FA_1 FB_1
    clear hb
    have FC_2 : Hid (Box 24 (w_2.alloc (.cells #[.int .i64 K, .string S1, .string R1] 24)) (w_2.heap.size) K S1 R1) := Box.new _ w_2 (w_2.heap.size) (by simp) _ _ _
    obtain ⟨a0, a1, a2⟩ := Box.c (FA_2.out.below ((Below.refl w_2.heap.size w_2).alloc (by simp) (.cells #[.int .i64 K, .string S1, .string R1] 24)) FA_2.out.lt)
    obtain ⟨a_0, a_1, a_2⟩ := Box.c FA_2.out
    have alt := FA_2.out.lt
    obtain ⟨b0, b1, b2⟩ := Box.c (FB_2.out.below ((Below.refl w_2.heap.size w_2).alloc (by simp) (.cells #[.int .i64 K, .string S1, .string R1] 24)) FB_2.out.lt)
    obtain ⟨b_0, b_1, b_2⟩ := Box.c FB_2.out
    have blt := FB_2.out.lt
    go_wp2_with fail
    clear a0 a1 a2 a_0 a_1 a_2 alt b0 b1 b2 b_0 b_1 b_2 blt
    refine ((HC2).out _).mono ?_
    rintro e w_3 ⟨rfl, hb⟩
    have hbn : Below w_2.heap.size w_2 w_3 := ((Below.refl w_2.heap.size w_2).alloc (by simp) (.cells #[.int .i64 K, .string S1, .string R1] 24)).trans (hb.mono (by simp))
    have FA_3 := Lib.hid (FA_2.out.below hbn FA_2.out.lt)
    have FB_3 := Lib.hid (FB_2.out.below hbn FB_2.out.lt)
    have FC_3 := Lib.hid (FC_2.out.below hb (by simp))
    have AW_3 : Hid (Below w.heap.size w w_3) := AW_2.out.trans (hbn.mono AW_2.out.size)
    clear hbn AW_2 FA_2 FB_2 FC_2
    clear hb
    have FD_3 : Hid (Box 24 (w_3.alloc (.cells #[.int .i64 K, .string S1, .string R1] 24)) (w_3.heap.size) K S1 R1) := Box.new _ w_3 (w_3.heap.size) (by simp) _ _ _
    obtain ⟨c0, c1, c2⟩ := Box.c (FC_3.out.below ((Below.refl w_3.heap.size w_3).alloc (by simp) (.cells #[.int .i64 K, .string S1, .string R1] 24)) FC_3.out.lt)
    obtain ⟨c_0, c_1, c_2⟩ := Box.c FC_3.out
    have clt := FC_3.out.lt
    obtain ⟨d0, d1, d2⟩ := Box.c FD_3.out
    have q1 := neq_struct K S1 R1
    have q2 := eq_struct K S1 R1
    go_upto_region 9 with (fail)
    clear q1 q2 c0 c1 c2 c_0 c_1 c_2 clt d0 d1 d2
    obtain ⟨rad, hrd⟩ : ∃ z : Int, z = (n1 : Int) % 4 := ⟨_, rfl⟩
    have hr0 : 0 ≤ rad := by rw [hrd]; omega
    have hr4 : rad < 4 := by rw [hrd]; omega
    rw [← hrd]
    clear hrd
    have AX := Lib.hid (AW_3.out.trans (((Below.refl w_3.heap.size w_3).alloc (by simp) (.cells #[.int .i64 K, .string S1, .string R1] 24)).mono AW_3.out.size))
    have XA := Lib.hid (FA_3.out.below ((Below.refl w_3.heap.size w_3).alloc (by simp) (.cells #[.int .i64 K, .string S1, .string R1] 24)) FA_3.out.lt)
    have XB := Lib.hid (FB_3.out.below ((Below.refl w_3.heap.size w_3).alloc (by simp) (.cells #[.int .i64 K, .string S1, .string R1] 24)) FB_3.out.lt)
    have XC := Lib.hid (FC_3.out.below ((Below.refl w_3.heap.size w_3).alloc (by simp) (.cells #[.int .i64 K, .string S1, .string R1] 24)) FC_3.out.lt)
    clear AW_3 FA_3 FB_3 FC_3 FD_3
    go_wp2_with fail
    go_loopw [12] (fun i wr => ∃ X : Nat, X ≤ N ∧ i = .int .i64 X ∧ Below w.heap.size w wr ∧ Box 24 wr w_1.heap.size N s r ∧ Box 24 wr (w_1.heap.size + 1) M t q ∧ Box 24 wr w_2.heap.size K S1 R1) (fun i _ => N - (intOf i).toNat)
    case atStart => exact ⟨0, Nat.zero_le _, rfl, AX.out, XA.out, XB.out, XC.out⟩
    case round =>
      clear AX XA XB XC
      obtain ⟨X, hle, rfl, hst⟩ := hrel
      have AW_90 := Lib.hid hst.1
      have FA_90 := Lib.hid hst.2.1
      have FB_90 := Lib.hid hst.2.2.1
      have FC_90 := Lib.hid hst.2.2.2
      clear hst
      obtain ⟨a0, a1, a2⟩ := Box.c FA_90.out
      obtain ⟨b0, b1, b2⟩ := Box.c FB_90.out
      obtain ⟨c0, c1, c2⟩ := Box.c FC_90.out
      by_cases hlt : X < N
      · have tt : decide ((X : Int) < (N : Int)) = true := by simp; omega
        go_wp2_with fail
        clear a0 a1 a2 b0 b1 b2 c0 c1 c2
        refine (same.implSameBall_any N s r X K S1 R1 X rad _ (by have := HZ.out; omega) (by have := HZ.out; omega) (by have := HZ.out; omega) (by have := HZ.out; omega)).mono ?_
        rintro e w_91 ⟨rfl, hb⟩
        have hbn := hb
        have FA_91 := Lib.hid (FA_90.out.below hbn FA_90.out.lt)
        have FB_91 := Lib.hid (FB_90.out.below hbn FB_90.out.lt)
        have FC_91 := Lib.hid (FC_90.out.below hbn FC_90.out.lt)
        have AW_91 : Hid (Below w.heap.size w w_91) := AW_90.out.trans (hbn.mono AW_90.out.size)
        clear hbn AW_90 FA_90 FB_90 FC_90
        rw [HL.out X rad hlt hr0 hr4]
        clear hb
        go_wp2
        go_roundw
        case rel => exact ⟨X + 1, by omega, by go_num, AW_91.out, FA_91.out, FB_91.out, FC_91.out⟩
        case measure => simp [intOf]; omega
      · obtain rfl : N = X := by omega
        go_wp2_with fail
        clear a0 a1 a2 b0 b1 b2 c0 c1 c2
        go_loopw [13] (fun i wr => ∃ Y : Nat, Y ≤ M ∧ i = .int .i64 Y ∧ Below w.heap.size w wr ∧ Box 24 wr w_1.heap.size N s r ∧ Box 24 wr (w_1.heap.size + 1) M t q ∧ Box 24 wr w_2.heap.size K S1 R1) (fun i _ => M - (intOf i).toNat)
        case atStart => exact ⟨0, Nat.zero_le _, rfl, AW_90.out, FA_90.out, FB_90.out, FC_90.out⟩
        case round =>
          clear AW_90 FA_90 FB_90 FC_90
          obtain ⟨Y, hle, rfl, hst⟩ := hrel
          have AW_90 := Lib.hid hst.1
          have FA_90 := Lib.hid hst.2.1
          have FB_90 := Lib.hid hst.2.2.1
          have FC_90 := Lib.hid hst.2.2.2
          clear hst
          obtain ⟨a0, a1, a2⟩ := Box.c FA_90.out
          obtain ⟨b0, b1, b2⟩ := Box.c FB_90.out
          obtain ⟨c0, c1, c2⟩ := Box.c FC_90.out
          by_cases hlt : Y < M
          · have tt : decide ((Y : Int) < (M : Int)) = true := by simp; omega
            go_wp2_with fail
            clear a0 a1 a2 b0 b1 b2 c0 c1 c2
            refine (same.implSameBall_any M t q Y K S1 R1 ((Y : Int) + (N : Int)) rad _ (by have := HZ.out; omega) (by have := HZ.out; omega) (by have := HZ.out; omega) (by have := HZ.out; omega)).mono ?_
            rintro e w_91 ⟨rfl, hb⟩
            have hbn := hb
            have FA_91 := Lib.hid (FA_90.out.below hbn FA_90.out.lt)
            have FB_91 := Lib.hid (FB_90.out.below hbn FB_90.out.lt)
            have FC_91 := Lib.hid (FC_90.out.below hbn FC_90.out.lt)
            have AW_91 : Hid (Below w.heap.size w w_91) := AW_90.out.trans (hbn.mono AW_90.out.size)
            clear hbn AW_90 FA_90 FB_90 FC_90
            rw [HR.out Y rad hlt hr0 hr4]
            clear hb
            go_wp2
            go_roundw
            case rel => exact ⟨Y + 1, by omega, by go_num, AW_91.out, FA_91.out, FB_91.out, FC_91.out⟩
            case measure => simp [intOf]; omega
          · obtain rfl : M = Y := by omega
            go_wp2_with fail
            clear a0 a1 a2 b0 b1 b2 c0 c1 c2
            refine ((HC3).out _).mono ?_
            rintro e w_91 ⟨rfl, hb⟩
            have hbn := hb
            have FA_91 := Lib.hid (FA_90.out.below hbn FA_90.out.lt)
            have FB_91 := Lib.hid (FB_90.out.below hbn FB_90.out.lt)
            have FC_91 := Lib.hid (FC_90.out.below hbn FC_90.out.lt)
            have AW_91 : Hid (Below w.heap.size w w_91) := AW_90.out.trans (hbn.mono AW_90.out.size)
            clear hbn AW_90 FA_90 FB_90 FC_90
            clear hb
            have FD_91 : Hid (Box 24 (w_91.alloc (.cells #[.int .i64 K, .string S2, .string R2] 24)) (w_91.heap.size) K S2 R2) := Box.new _ w_91 (w_91.heap.size) (by simp) _ _ _
            obtain ⟨c0, c1, c2⟩ := Box.c (FC_91.out.below ((Below.refl w_91.heap.size w_91).alloc (by simp) (.cells #[.int .i64 K, .string S2, .string R2] 24)) FC_91.out.lt)
            obtain ⟨c_0, c_1, c_2⟩ := Box.c FC_91.out
            have clt := FC_91.out.lt
            obtain ⟨d0, d1, d2⟩ := Box.c FD_91.out
            go_wp2_with fail
            clear c0 c1 c2 c_0 c_1 c_2 clt d0 d1 d2
            refine (colj.implSameColours_any K S1 R1 K S2 R2 _ (by have := HZ.out; omega) (by have := HZ.out; omega) (by have := HZ.out; omega) (by have := HZ.out; omega)).mono ?_
            rintro e w_92 ⟨rfl, hb⟩
            have hbn : Below w_91.heap.size w_91 w_92 := ((Below.refl w_91.heap.size w_91).alloc (by simp) (.cells #[.int .i64 K, .string S2, .string R2] 24)).trans (hb.mono (by simp))
            have FA_92 := Lib.hid (FA_91.out.below hbn FA_91.out.lt)
            have FB_92 := Lib.hid (FB_91.out.below hbn FB_91.out.lt)
            have FC_92 := Lib.hid (FC_91.out.below hbn FC_91.out.lt)
            have FD_92 := Lib.hid (FD_91.out.below hb (by simp))
            have AW_92 : Hid (Below w.heap.size w w_92) := AW_91.out.trans (hbn.mono AW_91.out.size)
            clear hbn AW_91 FA_91 FB_91 FC_91 FD_91
            rw [HO.out]
            clear hb
            obtain ⟨c0, c1, c2⟩ := Box.c FC_92.out
            obtain ⟨d0, d1, d2⟩ := Box.c FD_92.out
            go_wp2_with fail
            clear c0 c1 c2 d0 d1 d2
            refine (sbs.implSbs_any K S1 R1 K S2 R2 rad _ (by have := HZ.out; omega) (by have := HZ.out; omega) (by have := HZ.out; omega) (by have := HZ.out; omega)).mono ?_
            rintro e w_93 ⟨rfl, hb⟩
            have hbn := hb
            have FA_93 := Lib.hid (FA_92.out.below hbn FA_92.out.lt)
            have FB_93 := Lib.hid (FB_92.out.below hbn FB_92.out.lt)
            have FC_93 := Lib.hid (FC_92.out.below hbn FC_92.out.lt)
            have FD_93 := Lib.hid (FD_92.out.below hbn FD_92.out.lt)
            have AW_93 : Hid (Below w.heap.size w w_93) := AW_92.out.trans (hbn.mono AW_92.out.size)
            clear hbn AW_92 FA_92 FB_92 FC_92 FD_92
            rw [HB.out rad hr0 hr4]
            clear hb
            go_wp2
            go_ret
            exact ⟨rfl, AW_93.out⟩
end Go.Proofs.YtglehegjimhbjaaGreatDoor.fnSumColoursW
