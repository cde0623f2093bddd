/- FnProductOf: the walk. -/
import Derived.Test.YtefneihlgclkbaaDoorDrawG
import Derived.Test.YtefneihlgclkbaaDoorProdL
import Derived.Test.YtefneihlgclkbaaDoorInRel
import Derived.Test.YtefneihlgclkbaaDoorInSet
import Derived.Test.YtefneihlgclkbaaDoorPairP
import Derived.Test.YtefneihlgclkbaaDoorShape
import Derived.Test.YtefneihlgclkbaaDoorAssoc
import Derived.Test.YtefneihlgclkbaaDoorRow
namespace Go.Proofs.YtefneihlgclkbaaDoor.fnProdW
set_option linter.unusedVariables false
set_option linter.unusedSimpArgs false
open Go.ChangeShapes Go.WideShapes Go.ChangeAt Go.RowKit
open Go.Proofs.YtefneihlgclkbaaDoor.flow Go.Proofs.YtefneihlgclkbaaDoor.lib Go.Proofs.YtefneihlgclkbaaDoor.st Go.Proofs.YtefneihlgclkbaaDoor.draw Go.Proofs.YtefneihlgclkbaaDoor.base Go.Proofs.YtefneihlgclkbaaDoor.make Go.Proofs.YtefneihlgclkbaaDoor.prod Go.Proofs.YtefneihlgclkbaaDoor.val Go.Proofs.YtefneihlgclkbaaDoor.assoc Go.Proofs.YtefneihlgclkbaaDoor.fits Go.Proofs.YtefneihlgclkbaaDoor.prodl Go.Proofs.YtefneihlgclkbaaDoor.shape Go.Proofs.YtefneihlgclkbaaDoor.pairP
/-- bytes that came in may be drawn from -/
theorem byt_of_row {w : World} {a : Option Addr} {n c : Nat} {zs : List Int} (h : row.IsRow .u8 w a n c zs) : Byt w w.heap.size a n ∧ n ≤ c ∧ c ≤ 9223372036854775807 := by
  rcases h with ⟨rfl, rfl, rfl, rfl⟩ | ⟨x, rfl, hl, hm, hz, hcell, hwf⟩
  · exact ⟨.inl rfl, Nat.le_refl _, by omega⟩
  · refine ⟨?_, hl, hm⟩
    by_cases h0 : n = 0
    · exact .inl h0
    · obtain ⟨b, off, spot⟩ := x
      have hc := hcell 0 (by omega)
      have hspot : spot = none := by simpa [Addr.add] using World.cell?_spot hc
      subst hspot
      have hlt := World.block_lt_of_cell? w _ hc
      refine .inr ⟨b, off, rfl, by simpa [Addr.add] using hlt, fun i hi => ?_⟩
      have hci := hcell i (by omega)
      have hw := hwf (zs.getD i 0) (by rw [List.getD_eq_getElem?_getD, List.getElem?_eq_getElem (by omega)]; exact List.getElem_mem _)
      have hb : 0 ≤ zs.getD i 0 ∧ zs.getD i 0 ≤ 255 := by
        generalize zs.getD i 0 = z at hw ⊢
        simp only [Lit.wf, IntKind.min, IntKind.max, IntKind.signed, IntKind.bits, Bool.and_eq_true, decide_eq_true_eq] at hw
        simp at hw
        omega
      refine ⟨(zs.getD i 0).toNat, by omega, ?_⟩
      rw [show (⟨b, off, none⟩ : Addr).add i = ⟨b, off + i, none⟩ from by simp only [Addr.add]; split <;> simp [*]] at hci
      rw [hci, show (((zs.getD i 0).toNat : Nat) : Int) = zs.getD i 0 from by omega]

theorem neq_struct (n : Int) (s r : ByteArray) (w : World) : (binOp .neq 24 (.agg #[.int .i64 n, .string s, .string r]) (.agg #[.int .i64 n, .string s, .string r])).run Tryd.prog w = .ok (.bool false) w := by
  have u3 := Tryd.underlying3
  have a3 := Tryd.isAgg3
  have z3 := Tryd.sizeOf3
  have u4 := Tryd.underlying9
  have a4 := Tryd.isAgg9
  have z4 := Tryd.sizeOf9
  have hS : Tryd.prog.underlying 24 = some (.struct (Tryd.prog.fieldsOf 24)) := by kernel_rfl
  have hp : Tryd.prog.stoodInHeld 24 = false := by kernel_rfl
  rw [run_neq_struct, show (10000 : Nat) = 9999 + 1 from rfl, run_equalIn_agg w 9999 24 _ _ hS hp]
  simp only [Program.fieldsOf, Tryd.underlying24]
  go_simp
theorem sc_p {n : Int} {s r : ByteArray} {m : Int} {t q : ByteArray} (hs : s.size ≤ 100) (hr : r.size ≤ 100) (ht : t.size ≤ 100) (hq : q.size ≤ 100) : SC 11 n s r m t q (pn n s r m t q) (ps n s r m t q) (pr n s r m t q) (okP n s r m t q) :=
  fun W => implProduct_any n s r m t q W (by omega) (by omega) (by omega) (by omega)
theorem sc_ps {n : Int} {s r : ByteArray} {m : Int} {t q : ByteArray} (hs : s.size ≤ 100) (hr : r.size ≤ 100) (ht : t.size ≤ 100) (hq : q.size ≤ 100) : SC 12 n s r m t q (pn n s r m t q) (ps n s r m t q) (pr n s r m t q) (okP n s r m t q) :=
  fun W => specProduct_any n s r m t q W (by omega) (by omega) (by omega) (by omega)
/-- the products -/
theorem both {n : Int} {s r : ByteArray} {m : Int} {t q : ByteArray} (hs : s.size ≤ 100) (hr : r.size ≤ 100) (ht : t.size ≤ 100) (hq : q.size ≤ 100) :
    (∃ (x : Int) (y z : ByteArray), SC 11 n s r m t q x y z false ∧ SC 12 n s r m t q x y z false) ∨
    (∃ (N M K : Nat) (S1 R1 S2 R2 : ByteArray), n = N ∧ m = M ∧ prodl.Fact N M K s r t q S1 R1 S2 R2 ∧ SC 11 n s r m t q K S1 R1 true ∧ SC 12 n s r m t q K S1 R1 true ∧ SC 11 m t q n s r K S2 R2 true ∧ SC 11 n s r 1 one one N s r true) := by
  have c1 := sc_p (n := n) (s := s) (r := r) (m := m) (t := t) (q := q) hs hr ht hq
  have c2 := sc_ps (n := n) (s := s) (r := r) (m := m) (t := t) (q := q) hs hr ht hq
  have c3 := sc_p (n := m) (s := t) (r := q) (m := n) (t := s) (q := r) ht hq hs hr
  have c4 := sc_p (n := n) (s := s) (r := r) (m := 1) (t := one) (q := one) hs hr (by decide) (by decide)
  cases hk : okP n s r m t q with
  | false =>
    rw [hk] at c1 c2
    exact .inl ⟨_, _, _, c1, c2⟩
  | true =>
    obtain ⟨N, M, K, rfl, rfl, S1, R1, S2, R2, hf⟩ := prodl.fact hk
    obtain ⟨_, x1, x2, x3⟩ := hf.c1
    obtain ⟨y0, y1, y2, y3⟩ := hf.c2
    obtain ⟨z0, z1, z2, z3⟩ := hf.c3
    rw [x1, x2, x3, hk] at c1 c2
    rw [y1, y2, y3, y0] at c3
    rw [z1, z2, z3, z0] at c4
    exact .inr ⟨N, M, K, S1, R1, S2, R2, rfl, rfl, hf, c1, c2, c3, c4⟩
theorem wf_small {n : Nat} (h : n ≤ 8) : (Lit.int .i64 (n : Int)).wf = true := by
  simp only [Lit.wf, IntKind.min, IntKind.max, IntKind.signed, IntKind.bits, Bool.and_eq_true, decide_eq_true_eq]
  simp
  omega

set_option maxHeartbeats 40000000 in
set_option maxRecDepth 100000 in
theorem walk (a0 : Option Addr) (n0 c0 : Nat) (l0 : List Int) (w : World) (h0 : row.IsRow .u8 w a0 n0 c0 l0) :
    Calls Tryd.prog 3 #[.slice a0 n0 c0] w fun e w' => e = .returned (.bool true) ∧ Below w.heap.size w w' := by
  obtain ⟨by0, nc0, cm0⟩ := byt_of_row h0
  have BY0 := Lib.hid by0
  clear by0
  clear h0
  by_cases hg0 : 1048576 < n0
  · go_enter Tryd.func3, Tryd.ntmps3
    go_wp2
    go_ret
    exact ⟨rfl, Below.refl _ _⟩
  go_enter Tryd.func3, Tryd.ntmps3
  have AW_0 : Hid (Below w.heap.size w w) := Below.refl _ _
  go_wp2_with fail
  refine (drawProductOf_any a0 n0 c0 _ BY0.out nc0 cm0).mono ?_
  rintro e w_1 ⟨n, s, r, m, t, q, rfl, hnw, hs, hr, hmw, ht, hq, hb⟩
  have hbn := hb
  have AW_1 : Hid (Below w.heap.size w w_1) := AW_0.out.trans (hbn.mono AW_0.out.size)
  clear hbn AW_0 
  have FA_1 : Hid (Box 24 (w_1.alloc (.cells #[.int .i64 n, .string s, .string r] 24)) (w_1.heap.size) n s r) := Box.new _ w_1 (w_1.heap.size) (by simp) _ _ _
  have FA_1 := Lib.hid (FA_1.out.below ((Below.refl (w_1.heap.size + 1) _).alloc (by simp) (.cells #[.int .i64 m, .string t, .string q] 24)) (by omega))
  have FB_1 : Hid (Box 24 ((w_1.alloc (.cells #[.int .i64 n, .string s, .string r] 24)).alloc (.cells #[.int .i64 m, .string t, .string q] 24)) (w_1.heap.size + 1) m t q) := Box.new _ (w_1.alloc (.cells #[.int .i64 n, .string s, .string r] 24)) (w_1.heap.size + 1) (by simp) _ _ _
  clear hb
  obtain ⟨x, y, z, hc1, hc2⟩ | ⟨N, M, K, S1, R1, S2, R2, rfl, rfl, hf, hc1, hc2, hc3, hc4⟩ := both (n := n) (m := m) hs hr ht hq
  · have HC1 := Lib.hid hc1
    have HC2 := Lib.hid hc2
    clear hc1 hc2
    obtain ⟨a0, a1, a2⟩ := Box.c FA_1.out
    obtain ⟨b0, b1, b2⟩ := Box.c FB_1.out
    go_wp2_with fail
    clear  a0 a1 a2 b0 b1 b2
    refine ((HC1).out _).mono ?_
    rintro e w_2 ⟨rfl, hb⟩
    have hbn : Below w_1.heap.size w_1 w_2 := (((Below.refl w_1.heap.size w_1).alloc (by simp) (.cells #[.int .i64 n, .string s, .string r] 24)).alloc (by simp) (.cells #[.int .i64 m, .string t, .string q] 24)).trans (hb.mono (show w_1.heap.size ≤ _ by simp <;> omega))
    have FA_2 := Lib.hid (FA_1.out.below hb (by simp <;> omega))
    have FB_2 := Lib.hid (FB_1.out.below hb (by simp <;> omega))
    have AW_2 : Hid (Below w.heap.size w w_2) := AW_1.out.trans (hbn.mono AW_1.out.size)
    clear hbn AW_1 FA_1 FB_1
    clear hb
    have FC_2 : Hid (Box 24 (w_2.alloc (.cells #[.int .i64 x, .string y, .string z] 24)) (w_2.heap.size) x y z) := Box.new _ w_2 (w_2.heap.size) (by simp) _ _ _
    obtain ⟨a0, a1, a2⟩ := Box.c (FA_2.out.below ((Below.refl w_2.heap.size w_2).alloc (by simp) (.cells #[.int .i64 x, .string y, .string z] 24)) FA_2.out.lt)
    obtain ⟨a_0, a_1, a_2⟩ := Box.c FA_2.out
    have alt := FA_2.out.lt
    obtain ⟨b0, b1, b2⟩ := Box.c (FB_2.out.below ((Below.refl w_2.heap.size w_2).alloc (by simp) (.cells #[.int .i64 x, .string y, .string z] 24)) FB_2.out.lt)
    obtain ⟨b_0, b_1, b_2⟩ := Box.c FB_2.out
    have blt := FB_2.out.lt
    go_wp2_with fail
    clear  a0 a1 a2 a_0 a_1 a_2 alt b0 b1 b2 b_0 b_1 b_2 blt
    refine ((HC2).out _).mono ?_
    rintro e w_3 ⟨rfl, hb⟩
    have hbn : Below w_2.heap.size w_2 w_3 := ((Below.refl w_2.heap.size w_2).alloc (by simp) (.cells #[.int .i64 x, .string y, .string z] 24)).trans (hb.mono (show w_2.heap.size ≤ _ by simp))
    have FA_3 := Lib.hid (FA_2.out.below hbn FA_2.out.lt)
    have FB_3 := Lib.hid (FB_2.out.below hbn FB_2.out.lt)
    have FC_3 := Lib.hid (FC_2.out.below hb (by simp))
    have AW_3 : Hid (Below w.heap.size w w_3) := AW_2.out.trans (hbn.mono AW_2.out.size)
    clear hbn AW_2 FA_2 FB_2 FC_2
    clear hb
    have FD_3 : Hid (Box 24 (w_3.alloc (.cells #[.int .i64 x, .string y, .string z] 24)) (w_3.heap.size) x y z) := Box.new _ w_3 (w_3.heap.size) (by simp) _ _ _
    obtain ⟨c0, c1, c2⟩ := Box.c (FC_3.out.below ((Below.refl w_3.heap.size w_3).alloc (by simp) (.cells #[.int .i64 x, .string y, .string z] 24)) FC_3.out.lt)
    obtain ⟨c_0, c_1, c_2⟩ := Box.c FC_3.out
    have clt := FC_3.out.lt
    obtain ⟨d0, d1, d2⟩ := Box.c FD_3.out
    have q1 := neq_struct x y z
    have q2 := eq_struct x y z
    go_wp2
    go_ret
    exact ⟨rfl, AW_3.out.trans (((Below.refl w_3.heap.size w_3).alloc (by simp) (.cells #[.int .i64 x, .string y, .string z] 24)).mono AW_3.out.size)⟩
  · have HC1 := Lib.hid hc1
    have HC2 := Lib.hid hc2
    have HC3 := Lib.hid hc3
    have HC4 := Lib.hid hc4
    have HF := Lib.hid hf
    have hk8 := hf.k8
    have hn1 := hf.n
    have hm1 := hf.m
    have hn8 := hf.n8
    have hm8 := hf.m8
    clear hc1 hc2 hc3 hc4 hf hnw hmw hs hr ht hq
    obtain ⟨a0, a1, a2⟩ := Box.c FA_1.out
    obtain ⟨b0, b1, b2⟩ := Box.c FB_1.out
    go_wp2_with fail
    clear  a0 a1 a2 b0 b1 b2
    refine ((HC1).out _).mono ?_
    rintro e w_2 ⟨rfl, hb⟩
    have hbn : Below w_1.heap.size w_1 w_2 := (((Below.refl w_1.heap.size w_1).alloc (by simp) (.cells #[.int .i64 N, .string s, .string r] 24)).alloc (by simp) (.cells #[.int .i64 M, .string t, .string q] 24)).trans (hb.mono (show w_1.heap.size ≤ _ by simp <;> omega))
    have FA_2 := Lib.hid (FA_1.out.below hb (by simp <;> omega))
    have FB_2 := Lib.hid (FB_1.out.below hb (by simp <;> omega))
    have AW_2 : Hid (Below w.heap.size w w_2) := AW_1.out.trans (hbn.mono AW_1.out.size)
    clear hbn AW_1 FA_1 FB_1
    clear hb
    have FC_2 : Hid (Box 24 (w_2.alloc (.cells #[.int .i64 K, .string S1, .string R1] 24)) (w_2.heap.size) K S1 R1) := Box.new _ w_2 (w_2.heap.size) (by simp) _ _ _
    obtain ⟨a0, a1, a2⟩ := Box.c (FA_2.out.below ((Below.refl w_2.heap.size w_2).alloc (by simp) (.cells #[.int .i64 K, .string S1, .string R1] 24)) FA_2.out.lt)
    obtain ⟨a_0, a_1, a_2⟩ := Box.c FA_2.out
    have alt := FA_2.out.lt
    obtain ⟨b0, b1, b2⟩ := Box.c (FB_2.out.below ((Below.refl w_2.heap.size w_2).alloc (by simp) (.cells #[.int .i64 K, .string S1, .string R1] 24)) FB_2.out.lt)
    obtain ⟨b_0, b_1, b_2⟩ := Box.c FB_2.out
    have blt := FB_2.out.lt
    go_wp2_with fail
    clear  a0 a1 a2 a_0 a_1 a_2 alt b0 b1 b2 b_0 b_1 b_2 blt
    refine ((HC2).out _).mono ?_
    rintro e w_3 ⟨rfl, hb⟩
    have hbn : Below w_2.heap.size w_2 w_3 := ((Below.refl w_2.heap.size w_2).alloc (by simp) (.cells #[.int .i64 K, .string S1, .string R1] 24)).trans (hb.mono (show w_2.heap.size ≤ _ by simp))
    have FA_3 := Lib.hid (FA_2.out.below hbn FA_2.out.lt)
    have FB_3 := Lib.hid (FB_2.out.below hbn FB_2.out.lt)
    have FC_3 := Lib.hid (FC_2.out.below hb (by simp))
    have AW_3 : Hid (Below w.heap.size w w_3) := AW_2.out.trans (hbn.mono AW_2.out.size)
    clear hbn AW_2 FA_2 FB_2 FC_2
    clear hb
    have FD_3 : Hid (Box 24 (w_3.alloc (.cells #[.int .i64 K, .string S1, .string R1] 24)) (w_3.heap.size) K S1 R1) := Box.new _ w_3 (w_3.heap.size) (by simp) _ _ _
    obtain ⟨c0, c1, c2⟩ := Box.c (FC_3.out.below ((Below.refl w_3.heap.size w_3).alloc (by simp) (.cells #[.int .i64 K, .string S1, .string R1] 24)) FC_3.out.lt)
    obtain ⟨c_0, c_1, c_2⟩ := Box.c FC_3.out
    have clt := FC_3.out.lt
    obtain ⟨d0, d1, d2⟩ := Box.c FD_3.out
    have q1 := neq_struct K S1 R1
    obtain ⟨a0, a1, a2⟩ := Box.c (FA_3.out.below ((Below.refl w_3.heap.size w_3).alloc (by simp) (.cells #[.int .i64 K, .string S1, .string R1] 24)) FA_3.out.lt)
    obtain ⟨a_0, a_1, a_2⟩ := Box.c FA_3.out
    have alt := FA_3.out.lt
    go_wp2_with fail
    clear q1 c0 c1 c2 c_0 c_1 c_2 clt d0 d1 d2 a0 a1 a2 a_0 a_1 a_2 alt
    have AX := Lib.hid (AW_3.out.trans (((Below.refl w_3.heap.size w_3).alloc (by simp) (.cells #[.int .i64 K, .string S1, .string R1] 24)).mono AW_3.out.size))
    have XA := Lib.hid (FA_3.out.below ((Below.refl w_3.heap.size w_3).alloc (by simp) (.cells #[.int .i64 K, .string S1, .string R1] 24)) FA_3.out.lt)
    have XB := Lib.hid (FB_3.out.below ((Below.refl w_3.heap.size w_3).alloc (by simp) (.cells #[.int .i64 K, .string S1, .string R1] 24)) FB_3.out.lt)
    have XC := Lib.hid (FC_3.out.below ((Below.refl w_3.heap.size w_3).alloc (by simp) (.cells #[.int .i64 K, .string S1, .string R1] 24)) FC_3.out.lt)
    clear AW_3 FA_3 FB_3 FC_3 FD_3
    obtain ⟨W9, hW9⟩ : ∃ QZ, QZ = (w_3.alloc (.cells #[.int .i64 K, .string S1, .string R1] 24)) := ⟨_, rfl⟩
    rw [← hW9] at AX
    rw [← hW9] at XA
    rw [← hW9] at XB
    rw [← hW9] at XC
    try rw [← hW9]
    clear hW9
    have HS0 : Hid (Below w.heap.size w W9 ∧ Box 24 W9 w_1.heap.size N s r ∧ Box 24 W9 (w_1.heap.size + 1) M t q ∧ Box 24 W9 w_2.heap.size K S1 R1) := ⟨AX.out, XA.out, XB.out, XC.out⟩
    clear AX XA XB XC
    go_wp2_with fail
    go_loopw [9] (fun i wr => ∃ X : Nat, X ≤ N ∧ i = .int .i64 X ∧ Below w.heap.size w wr ∧ Box 24 wr w_1.heap.size N s r ∧ Box 24 wr (w_1.heap.size + 1) M t q ∧ Box 24 wr w_2.heap.size K S1 R1) (fun i _ => N - (intOf i).toNat)
    case atStart => exact ⟨0, Nat.zero_le _, rfl, HS0.out⟩
    case round =>
      clear HS0
      obtain ⟨X, hleX, rfl, hst⟩ := hrel
      have HS := Lib.hid hst
      clear hst
      by_cases hltX : X < N
      · have tX : decide ((X : Int) < (N : Int)) = true := by simp; omega
        obtain ⟨a0, a1, a2⟩ := Box.c (HS.out.2.1)
        obtain ⟨b0, b1, b2⟩ := Box.c (HS.out.2.2.1)
        obtain ⟨c0, c1, c2⟩ := Box.c (HS.out.2.2.2)
        go_wp2_with fail
        go_loopw [10] (fun i wr => ∃ Y : Nat, Y ≤ M ∧ i = .int .i64 Y ∧ Below w.heap.size w wr ∧ Box 24 wr w_1.heap.size N s r ∧ Box 24 wr (w_1.heap.size + 1) M t q ∧ Box 24 wr w_2.heap.size K S1 R1) (fun i _ => M - (intOf i).toNat)
        case atStart => exact ⟨0, Nat.zero_le _, rfl, HS.out⟩
        case round =>
          clear HS
          obtain ⟨Y, hleY, rfl, hst⟩ := hrel
          have HS := Lib.hid hst
          clear hst
          by_cases hltY : Y < M
          · have tY : decide ((Y : Int) < (M : Int)) = true := by simp; omega
            obtain ⟨a0, a1, a2⟩ := Box.c (HS.out.2.1)
            obtain ⟨b0, b1, b2⟩ := Box.c (HS.out.2.2.1)
            obtain ⟨c0, c1, c2⟩ := Box.c (HS.out.2.2.2)
            go_wp2_with fail
            clear a0 a1 a2 b0 b1 b2 c0 c1 c2
            obtain ⟨p, hp⟩ : ∃ p : Nat, p = X * M + Y := ⟨_, rfl⟩
            have hpK : p < K := by rw [hp]; exact HF.out.lt X Y hltX hltY
            have HP := Lib.hid hp
            have hcs := HF.out.bs X Y hltX hltY
            rw [← hp] at hcs
            obtain ⟨a0, a1, a2⟩ := Box.c (HS.out.2.1)
            obtain ⟨b0, b1, b2⟩ := Box.c (HS.out.2.2.1)
            obtain ⟨c0, c1, c2⟩ := Box.c (HS.out.2.2.2)
            go_wp2_with fail
            clear a0 a1 a2 b0 b1 b2 c0 c1 c2
            refine (impl_PairPlace_any N s r M t q X Y _ (wf_small (by omega)) (wf_small (by omega)) (by have := HF.out.z; omega) (by have := HF.out.z; omega) (by have := HF.out.z; omega) (by have := HF.out.z; omega)).mono ?_
            rintro eo w8 ⟨rfl, hb⟩
            rw [HF.out.pl X Y hltX hltY, ← hp]
            clear hp
            have HS8 : Hid (Below w.heap.size w w8 ∧ Box 24 w8 w_1.heap.size N s r ∧ Box 24 w8 (w_1.heap.size + 1) M t q ∧ Box 24 w8 w_2.heap.size K S1 R1) := ⟨HS.out.1.trans (hb.mono HS.out.1.size), HS.out.2.1.below hb HS.out.2.1.lt, HS.out.2.2.1.below hb HS.out.2.2.1.lt, HS.out.2.2.2.below hb HS.out.2.2.2.lt⟩
            clear HS hb
            have tp1 : decide ((p : Int) < 0) = false := by simp
            have tp2 : decide ((K : Int) ≤ (p : Int)) = false := by simp; omega
            have tp3 : decide (K ≤ p) = false := by simp; omega
            obtain ⟨ba, hba⟩ : ∃ b, bitAt s X = b := ⟨_, rfl⟩
            obtain ⟨bb, hbb⟩ : ∃ b, bitAt t Y = b := ⟨_, rfl⟩
            rw [hba, hbb] at hcs
            cases ba with
            | false =>
              have Q1 : Hid (∀ W, Calls Tryd.prog 14 #[.agg #[.int .i64 K, .string S1, .string R1], .int .i64 p] W fun e w' => e = .returned (.bool false) ∧ Below W.heap.size W w') := fun W => by
                have h := inset.implInSet_any K S1 R1 p W HF.out.v1 (hpK) (by have := HF.out.z; omega) (by have := HF.out.z; omega)
                rw [hcs] at h
                exact h
              have Q2 : Hid (∀ W, Calls Tryd.prog 14 #[.agg #[.int .i64 N, .string s, .string r], .int .i64 X] W fun e w' => e = .returned (.bool false) ∧ Below W.heap.size W w') := fun W => by
                have h := inset.implInSet_any N s r X W HF.out.va (hltX) (by have := HF.out.z; omega) (by have := HF.out.z; omega)
                rw [hba] at h
                exact h
              clear hba hbb hcs
              have ac0 : ∀ X : Wd (fun W => Hid (Below w8.heap.size w8 W)), X.w.cell? ⟨w_1.heap.size, 0, none⟩ = some (.int .i64 N) := fun X => (HS8.out.2.1.below X.ok.out HS8.out.2.1.lt).c.1
              have ac1 : ∀ X : Wd (fun W => Hid (Below w8.heap.size w8 W)), X.w.cell? ⟨w_1.heap.size, 1, none⟩ = some (.string s) := fun X => (HS8.out.2.1.below X.ok.out HS8.out.2.1.lt).c.2.1
              have ac2 : ∀ X : Wd (fun W => Hid (Below w8.heap.size w8 W)), X.w.cell? ⟨w_1.heap.size, 2, none⟩ = some (.string r) := fun X => (HS8.out.2.1.below X.ok.out HS8.out.2.1.lt).c.2.2
              have bc0 : ∀ X : Wd (fun W => Hid (Below w8.heap.size w8 W)), X.w.cell? ⟨(w_1.heap.size + 1), 0, none⟩ = some (.int .i64 M) := fun X => (HS8.out.2.2.1.below X.ok.out HS8.out.2.2.1.lt).c.1
              have bc1 : ∀ X : Wd (fun W => Hid (Below w8.heap.size w8 W)), X.w.cell? ⟨(w_1.heap.size + 1), 1, none⟩ = some (.string t) := fun X => (HS8.out.2.2.1.below X.ok.out HS8.out.2.2.1.lt).c.2.1
              have bc2 : ∀ X : Wd (fun W => Hid (Below w8.heap.size w8 W)), X.w.cell? ⟨(w_1.heap.size + 1), 2, none⟩ = some (.string q) := fun X => (HS8.out.2.2.1.below X.ok.out HS8.out.2.2.1.lt).c.2.2
              have cc0 : ∀ X : Wd (fun W => Hid (Below w8.heap.size w8 W)), X.w.cell? ⟨w_2.heap.size, 0, none⟩ = some (.int .i64 K) := fun X => (HS8.out.2.2.2.below X.ok.out HS8.out.2.2.2.lt).c.1
              have cc1 : ∀ X : Wd (fun W => Hid (Below w8.heap.size w8 W)), X.w.cell? ⟨w_2.heap.size, 1, none⟩ = some (.string S1) := fun X => (HS8.out.2.2.2.below X.ok.out HS8.out.2.2.2.lt).c.2.1
              have cc2 : ∀ X : Wd (fun W => Hid (Below w8.heap.size w8 W)), X.w.cell? ⟨w_2.heap.size, 2, none⟩ = some (.string R1) := fun X => (HS8.out.2.2.2.below X.ok.out HS8.out.2.2.2.lt).c.2.2
              have hne : Nonempty (Wd (fun W => Hid (Below w8.heap.size w8 W))) := ⟨⟨w8, Lib.hid (Below.refl _ _)⟩⟩
              go_wp2_with fail
              refine flow_all (S := (fun W => Hid (Below w8.heap.size w8 W))) (by kernel_rfl) (by kernel_rfl) (Lib.hid (Below.refl _ _).drew) ?_
              try simp only [List.append_eq, List.cons_append, List.nil_append]
              repeat (go_big_quiet_step (first
                | ((with_reducible refine (Q1.out _).mono ?_); rintro e W ⟨rfl, hb⟩; exact ⟨rfl, Wd.on (Wd.ok _) hb⟩)
                | ((with_reducible refine (Q2.out _).mono ?_); rintro e W ⟨rfl, hb⟩; exact ⟨rfl, Wd.on (Wd.ok _) hb⟩)))
              refine wpQuiet_nil ?_
              rintro _ ⟨ZW, rfl⟩
              have HZW := Lib.hid ZW.ok.out
              clear ac0 ac1 ac2 bc0 bc1 bc2 cc0 cc1 cc2 hne
              have RH1 : Hid (Below w.heap.size w ZW.w ∧ Box 24 ZW.w w_1.heap.size N s r ∧ Box 24 ZW.w (w_1.heap.size + 1) M t q ∧ Box 24 ZW.w w_2.heap.size K S1 R1) := ⟨HS8.out.1.trans (HZW.out.mono HS8.out.1.size), HS8.out.2.1.below HZW.out HS8.out.2.1.lt, HS8.out.2.2.1.below HZW.out HS8.out.2.2.1.lt, HS8.out.2.2.2.below HZW.out HS8.out.2.2.2.lt⟩
              clear HS8 HZW
              clear Q1 Q2
              go_wp2_with fail
              go_loopw [12] (fun i wr => ∃ U : Nat, U ≤ N ∧ i = .int .i64 U ∧ Below w.heap.size w wr ∧ Box 24 wr w_1.heap.size N s r ∧ Box 24 wr (w_1.heap.size + 1) M t q ∧ Box 24 wr w_2.heap.size K S1 R1) (fun i _ => N - (intOf i).toNat)
              case atStart => exact ⟨0, Nat.zero_le _, rfl, RH1.out⟩
              case round =>
                clear RH1
                obtain ⟨U, hleU, rfl, hst⟩ := hrel
                have HS := Lib.hid hst
                clear hst
                by_cases hltU : U < N
                · have tU : decide ((U : Int) < (N : Int)) = true := by simp; omega
                  obtain ⟨a0, a1, a2⟩ := Box.c (HS.out.2.1)
                  obtain ⟨b0, b1, b2⟩ := Box.c (HS.out.2.2.1)
                  obtain ⟨c0, c1, c2⟩ := Box.c (HS.out.2.2.2)
                  go_wp2_with fail
                  go_loopw [13] (fun i wr => ∃ V : Nat, V ≤ M ∧ i = .int .i64 V ∧ Below w.heap.size w wr ∧ Box 24 wr w_1.heap.size N s r ∧ Box 24 wr (w_1.heap.size + 1) M t q ∧ Box 24 wr w_2.heap.size K S1 R1) (fun i _ => M - (intOf i).toNat)
                  case atStart => exact ⟨0, Nat.zero_le _, rfl, HS.out⟩
                  case round =>
                    clear HS
                    obtain ⟨V, hleV, rfl, hst⟩ := hrel
                    have HS := Lib.hid hst
                    clear hst
                    by_cases hltV : V < M
                    · have tV : decide ((V : Int) < (M : Int)) = true := by simp; omega
                      obtain ⟨a0, a1, a2⟩ := Box.c (HS.out.2.1)
                      obtain ⟨b0, b1, b2⟩ := Box.c (HS.out.2.2.1)
                      obtain ⟨c0, c1, c2⟩ := Box.c (HS.out.2.2.2)
                      go_wp2_with fail
                      clear a0 a1 a2 b0 b1 b2 c0 c1 c2
                      obtain ⟨ra, hra⟩ : ∃ b, bitAt r (X * N + U) = b := ⟨_, rfl⟩
                      obtain ⟨rb, hrb⟩ : ∃ b, bitAt q (Y * M + V) = b := ⟨_, rfl⟩
                      obtain ⟨g, hg⟩ : ∃ g : Nat, g = U * M + V := ⟨_, rfl⟩
                      have hgK : g < K := by rw [hg]; exact HF.out.lt U V hltU hltV
                      have hcr := HF.out.br X Y U V hltX hltY hltU hltV
                      rw [← HP.out, ← hg, hra, hrb] at hcr
                      have PP : Hid (∀ W, Calls Tryd.prog 13 #[.agg #[.int .i64 N, .string s, .string r], .agg #[.int .i64 M, .string t, .string q], .int .i64 U, .int .i64 V] W fun e w' => e = .returned (.int .i64 g) ∧ Below W.heap.size W w') := fun W => by
                        have h := impl_PairPlace_any N s r M t q U V W (wf_small (by omega)) (wf_small (by omega)) (by have := HF.out.z; omega) (by have := HF.out.z; omega) (by have := HF.out.z; omega) (by have := HF.out.z; omega)
                        rw [HF.out.pl U V hltU hltV, ← hg] at h
                        exact h
                      cases ra with
                      | false =>
                        have Q1 : Hid (∀ W, Calls Tryd.prog 15 #[.agg #[.int .i64 K, .string S1, .string R1], .int .i64 p, .int .i64 g] W fun e w' => e = .returned (.bool false) ∧ Below W.heap.size W w') := fun W => by
                          have h := inrel.implInRel_any K S1 R1 p g W HF.out.v1 (hpK) (hgK) (by have := HF.out.z; omega) (by have := HF.out.z; omega)
                          rw [hcr] at h
                          exact h
                        have Q2 : Hid (∀ W, Calls Tryd.prog 15 #[.agg #[.int .i64 N, .string s, .string r], .int .i64 X, .int .i64 U] W fun e w' => e = .returned (.bool false) ∧ Below W.heap.size W w') := fun W => by
                          have h := inrel.implInRel_any N s r X U W HF.out.va (hltX) (hltU) (by have := HF.out.z; omega) (by have := HF.out.z; omega)
                          rw [hra] at h
                          exact h
                        clear hra hrb hcr hg
                        have ac0 : ∀ X : Wd (fun W => Hid (Below wr.heap.size wr W)), X.w.cell? ⟨w_1.heap.size, 0, none⟩ = some (.int .i64 N) := fun X => (HS.out.2.1.below X.ok.out HS.out.2.1.lt).c.1
                        have ac1 : ∀ X : Wd (fun W => Hid (Below wr.heap.size wr W)), X.w.cell? ⟨w_1.heap.size, 1, none⟩ = some (.string s) := fun X => (HS.out.2.1.below X.ok.out HS.out.2.1.lt).c.2.1
                        have ac2 : ∀ X : Wd (fun W => Hid (Below wr.heap.size wr W)), X.w.cell? ⟨w_1.heap.size, 2, none⟩ = some (.string r) := fun X => (HS.out.2.1.below X.ok.out HS.out.2.1.lt).c.2.2
                        have bc0 : ∀ X : Wd (fun W => Hid (Below wr.heap.size wr W)), X.w.cell? ⟨(w_1.heap.size + 1), 0, none⟩ = some (.int .i64 M) := fun X => (HS.out.2.2.1.below X.ok.out HS.out.2.2.1.lt).c.1
                        have bc1 : ∀ X : Wd (fun W => Hid (Below wr.heap.size wr W)), X.w.cell? ⟨(w_1.heap.size + 1), 1, none⟩ = some (.string t) := fun X => (HS.out.2.2.1.below X.ok.out HS.out.2.2.1.lt).c.2.1
                        have bc2 : ∀ X : Wd (fun W => Hid (Below wr.heap.size wr W)), X.w.cell? ⟨(w_1.heap.size + 1), 2, none⟩ = some (.string q) := fun X => (HS.out.2.2.1.below X.ok.out HS.out.2.2.1.lt).c.2.2
                        have cc0 : ∀ X : Wd (fun W => Hid (Below wr.heap.size wr W)), X.w.cell? ⟨w_2.heap.size, 0, none⟩ = some (.int .i64 K) := fun X => (HS.out.2.2.2.below X.ok.out HS.out.2.2.2.lt).c.1
                        have cc1 : ∀ X : Wd (fun W => Hid (Below wr.heap.size wr W)), X.w.cell? ⟨w_2.heap.size, 1, none⟩ = some (.string S1) := fun X => (HS.out.2.2.2.below X.ok.out HS.out.2.2.2.lt).c.2.1
                        have cc2 : ∀ X : Wd (fun W => Hid (Below wr.heap.size wr W)), X.w.cell? ⟨w_2.heap.size, 2, none⟩ = some (.string R1) := fun X => (HS.out.2.2.2.below X.ok.out HS.out.2.2.2.lt).c.2.2
                        have hne : Nonempty (Wd (fun W => Hid (Below wr.heap.size wr W))) := ⟨⟨wr, Lib.hid (Below.refl _ _)⟩⟩
                        go_wp2_with fail
                        refine flow_all (S := (fun W => Hid (Below wr.heap.size wr W))) (by kernel_rfl) (by kernel_rfl) (Lib.hid (Below.refl _ _).drew) ?_
                        try simp only [List.append_eq, List.cons_append, List.nil_append]
                        repeat (go_big_quiet_step (first
                          | ((with_reducible refine (PP.out _).mono ?_); rintro e W ⟨rfl, hb⟩; exact ⟨rfl, Wd.on (Wd.ok _) hb⟩)
                          | ((with_reducible refine (Q1.out _).mono ?_); rintro e W ⟨rfl, hb⟩; exact ⟨rfl, Wd.on (Wd.ok _) hb⟩)
                          | ((with_reducible refine (Q2.out _).mono ?_); rintro e W ⟨rfl, hb⟩; exact ⟨rfl, Wd.on (Wd.ok _) hb⟩)))
                        refine wpQuiet_nil ?_
                        rintro _ ⟨ZW, rfl⟩
                        have HZW := Lib.hid ZW.ok.out
                        clear ac0 ac1 ac2 bc0 bc1 bc2 cc0 cc1 cc2 hne
                        have RH2 : Hid (Below w.heap.size w ZW.w ∧ Box 24 ZW.w w_1.heap.size N s r ∧ Box 24 ZW.w (w_1.heap.size + 1) M t q ∧ Box 24 ZW.w w_2.heap.size K S1 R1) := ⟨HS.out.1.trans (HZW.out.mono HS.out.1.size), HS.out.2.1.below HZW.out HS.out.2.1.lt, HS.out.2.2.1.below HZW.out HS.out.2.2.1.lt, HS.out.2.2.2.below HZW.out HS.out.2.2.2.lt⟩
                        clear HS HZW
                        go_wp2
                        go_roundw
                        case rel => first | exact ⟨V + 1, by omega, by go_num, RH2.out⟩ | ((repeat apply Exists.intro); exact ⟨⟨V + 1, by omega, by go_num, RH2.out⟩, rfl⟩)
                        case measure => simp [intOf]; omega
                      | true =>
                        have Q1 : Hid (∀ W, Calls Tryd.prog 15 #[.agg #[.int .i64 K, .string S1, .string R1], .int .i64 p, .int .i64 g] W fun e w' => e = .returned (.bool rb) ∧ Below W.heap.size W w') := fun W => by
                          have h := inrel.implInRel_any K S1 R1 p g W HF.out.v1 (hpK) (hgK) (by have := HF.out.z; omega) (by have := HF.out.z; omega)
                          rw [hcr, Bool.true_and] at h
                          exact h
                        have Q2 : Hid (∀ W, Calls Tryd.prog 15 #[.agg #[.int .i64 N, .string s, .string r], .int .i64 X, .int .i64 U] W fun e w' => e = .returned (.bool true) ∧ Below W.heap.size W w') := fun W => by
                          have h := inrel.implInRel_any N s r X U W HF.out.va (hltX) (hltU) (by have := HF.out.z; omega) (by have := HF.out.z; omega)
                          rw [hra] at h
                          exact h
                        have Q3 : Hid (∀ W, Calls Tryd.prog 15 #[.agg #[.int .i64 M, .string t, .string q], .int .i64 Y, .int .i64 V] W fun e w' => e = .returned (.bool rb) ∧ Below W.heap.size W w') := fun W => by
                          have h := inrel.implInRel_any M t q Y V W HF.out.vb (hltY) (hltV) (by have := HF.out.z; omega) (by have := HF.out.z; omega)
                          rw [hrb] at h
                          exact h
                        clear hra hrb hcr hg
                        have hrr : (rb != rb) = false := by cases rb <;> rfl
                        have ac0 : ∀ X : Wd (fun W => Hid (Below wr.heap.size wr W)), X.w.cell? ⟨w_1.heap.size, 0, none⟩ = some (.int .i64 N) := fun X => (HS.out.2.1.below X.ok.out HS.out.2.1.lt).c.1
                        have ac1 : ∀ X : Wd (fun W => Hid (Below wr.heap.size wr W)), X.w.cell? ⟨w_1.heap.size, 1, none⟩ = some (.string s) := fun X => (HS.out.2.1.below X.ok.out HS.out.2.1.lt).c.2.1
                        have ac2 : ∀ X : Wd (fun W => Hid (Below wr.heap.size wr W)), X.w.cell? ⟨w_1.heap.size, 2, none⟩ = some (.string r) := fun X => (HS.out.2.1.below X.ok.out HS.out.2.1.lt).c.2.2
                        have bc0 : ∀ X : Wd (fun W => Hid (Below wr.heap.size wr W)), X.w.cell? ⟨(w_1.heap.size + 1), 0, none⟩ = some (.int .i64 M) := fun X => (HS.out.2.2.1.below X.ok.out HS.out.2.2.1.lt).c.1
                        have bc1 : ∀ X : Wd (fun W => Hid (Below wr.heap.size wr W)), X.w.cell? ⟨(w_1.heap.size + 1), 1, none⟩ = some (.string t) := fun X => (HS.out.2.2.1.below X.ok.out HS.out.2.2.1.lt).c.2.1
                        have bc2 : ∀ X : Wd (fun W => Hid (Below wr.heap.size wr W)), X.w.cell? ⟨(w_1.heap.size + 1), 2, none⟩ = some (.string q) := fun X => (HS.out.2.2.1.below X.ok.out HS.out.2.2.1.lt).c.2.2
                        have cc0 : ∀ X : Wd (fun W => Hid (Below wr.heap.size wr W)), X.w.cell? ⟨w_2.heap.size, 0, none⟩ = some (.int .i64 K) := fun X => (HS.out.2.2.2.below X.ok.out HS.out.2.2.2.lt).c.1
                        have cc1 : ∀ X : Wd (fun W => Hid (Below wr.heap.size wr W)), X.w.cell? ⟨w_2.heap.size, 1, none⟩ = some (.string S1) := fun X => (HS.out.2.2.2.below X.ok.out HS.out.2.2.2.lt).c.2.1
                        have cc2 : ∀ X : Wd (fun W => Hid (Below wr.heap.size wr W)), X.w.cell? ⟨w_2.heap.size, 2, none⟩ = some (.string R1) := fun X => (HS.out.2.2.2.below X.ok.out HS.out.2.2.2.lt).c.2.2
                        have hne : Nonempty (Wd (fun W => Hid (Below wr.heap.size wr W))) := ⟨⟨wr, Lib.hid (Below.refl _ _)⟩⟩
                        go_wp2_with fail
                        refine flow_all (S := (fun W => Hid (Below wr.heap.size wr W))) (by kernel_rfl) (by kernel_rfl) (Lib.hid (Below.refl _ _).drew) ?_
                        try simp only [List.append_eq, List.cons_append, List.nil_append]
                        repeat (go_big_quiet_step (first
                          | ((with_reducible refine (PP.out _).mono ?_); rintro e W ⟨rfl, hb⟩; exact ⟨rfl, Wd.on (Wd.ok _) hb⟩)
                          | ((with_reducible refine (Q1.out _).mono ?_); rintro e W ⟨rfl, hb⟩; exact ⟨rfl, Wd.on (Wd.ok _) hb⟩)
                          | ((with_reducible refine (Q2.out _).mono ?_); rintro e W ⟨rfl, hb⟩; exact ⟨rfl, Wd.on (Wd.ok _) hb⟩)
                          | ((with_reducible refine (Q3.out _).mono ?_); rintro e W ⟨rfl, hb⟩; exact ⟨rfl, Wd.on (Wd.ok _) hb⟩)))
                        refine wpQuiet_nil ?_
                        rintro _ ⟨ZW, rfl⟩
                        have HZW := Lib.hid ZW.ok.out
                        clear ac0 ac1 ac2 bc0 bc1 bc2 cc0 cc1 cc2 hne
                        have RH2 : Hid (Below w.heap.size w ZW.w ∧ Box 24 ZW.w w_1.heap.size N s r ∧ Box 24 ZW.w (w_1.heap.size + 1) M t q ∧ Box 24 ZW.w w_2.heap.size K S1 R1) := ⟨HS.out.1.trans (HZW.out.mono HS.out.1.size), HS.out.2.1.below HZW.out HS.out.2.1.lt, HS.out.2.2.1.below HZW.out HS.out.2.2.1.lt, HS.out.2.2.2.below HZW.out HS.out.2.2.2.lt⟩
                        clear HS HZW
                        go_wp2
                        go_roundw
                        case rel => first | exact ⟨V + 1, by omega, by go_num, RH2.out⟩ | ((repeat apply Exists.intro); exact ⟨⟨V + 1, by omega, by go_num, RH2.out⟩, rfl⟩)
                        case measure => simp [intOf]; omega
                    · have tV : decide ((V : Int) < (M : Int)) = false := by simp; omega
                      obtain ⟨a0, a1, a2⟩ := Box.c (HS.out.2.1)
                      obtain ⟨b0, b1, b2⟩ := Box.c (HS.out.2.2.1)
                      obtain ⟨c0, c1, c2⟩ := Box.c (HS.out.2.2.2)
                      go_wp2
                      go_roundw
                      case rel => first | exact ⟨U + 1, by omega, by go_num, HS.out⟩ | ((repeat apply Exists.intro); exact ⟨⟨U + 1, by omega, by go_num, HS.out⟩, rfl⟩)
                      case measure => simp [intOf]; omega
                · have tU : decide ((U : Int) < (N : Int)) = false := by simp; omega
                  obtain ⟨a0, a1, a2⟩ := Box.c (HS.out.2.1)
                  obtain ⟨b0, b1, b2⟩ := Box.c (HS.out.2.2.1)
                  obtain ⟨c0, c1, c2⟩ := Box.c (HS.out.2.2.2)
                  go_wp2
                  go_roundw
                  case rel => first | exact ⟨Y + 1, by omega, by go_num, HS.out⟩ | ((repeat apply Exists.intro); exact ⟨⟨Y + 1, by omega, by go_num, HS.out⟩, rfl⟩)
                  case measure => simp [intOf]; omega
            | true =>
              have Q1 : Hid (∀ W, Calls Tryd.prog 14 #[.agg #[.int .i64 K, .string S1, .string R1], .int .i64 p] W fun e w' => e = .returned (.bool bb) ∧ Below W.heap.size W w') := fun W => by
                have h := inset.implInSet_any K S1 R1 p W HF.out.v1 (hpK) (by have := HF.out.z; omega) (by have := HF.out.z; omega)
                rw [hcs, Bool.true_and] at h
                exact h
              have Q2 : Hid (∀ W, Calls Tryd.prog 14 #[.agg #[.int .i64 N, .string s, .string r], .int .i64 X] W fun e w' => e = .returned (.bool true) ∧ Below W.heap.size W w') := fun W => by
                have h := inset.implInSet_any N s r X W HF.out.va (hltX) (by have := HF.out.z; omega) (by have := HF.out.z; omega)
                rw [hba] at h
                exact h
              have Q3 : Hid (∀ W, Calls Tryd.prog 14 #[.agg #[.int .i64 M, .string t, .string q], .int .i64 Y] W fun e w' => e = .returned (.bool bb) ∧ Below W.heap.size W w') := fun W => by
                have h := inset.implInSet_any M t q Y W HF.out.vb (hltY) (by have := HF.out.z; omega) (by have := HF.out.z; omega)
                rw [hbb] at h
                exact h
              clear hba hbb hcs
              have hrr : (bb != bb) = false := by cases bb <;> rfl
              have ac0 : ∀ X : Wd (fun W => Hid (Below w8.heap.size w8 W)), X.w.cell? ⟨w_1.heap.size, 0, none⟩ = some (.int .i64 N) := fun X => (HS8.out.2.1.below X.ok.out HS8.out.2.1.lt).c.1
              have ac1 : ∀ X : Wd (fun W => Hid (Below w8.heap.size w8 W)), X.w.cell? ⟨w_1.heap.size, 1, none⟩ = some (.string s) := fun X => (HS8.out.2.1.below X.ok.out HS8.out.2.1.lt).c.2.1
              have ac2 : ∀ X : Wd (fun W => Hid (Below w8.heap.size w8 W)), X.w.cell? ⟨w_1.heap.size, 2, none⟩ = some (.string r) := fun X => (HS8.out.2.1.below X.ok.out HS8.out.2.1.lt).c.2.2
              have bc0 : ∀ X : Wd (fun W => Hid (Below w8.heap.size w8 W)), X.w.cell? ⟨(w_1.heap.size + 1), 0, none⟩ = some (.int .i64 M) := fun X => (HS8.out.2.2.1.below X.ok.out HS8.out.2.2.1.lt).c.1
              have bc1 : ∀ X : Wd (fun W => Hid (Below w8.heap.size w8 W)), X.w.cell? ⟨(w_1.heap.size + 1), 1, none⟩ = some (.string t) := fun X => (HS8.out.2.2.1.below X.ok.out HS8.out.2.2.1.lt).c.2.1
              have bc2 : ∀ X : Wd (fun W => Hid (Below w8.heap.size w8 W)), X.w.cell? ⟨(w_1.heap.size + 1), 2, none⟩ = some (.string q) := fun X => (HS8.out.2.2.1.below X.ok.out HS8.out.2.2.1.lt).c.2.2
              have cc0 : ∀ X : Wd (fun W => Hid (Below w8.heap.size w8 W)), X.w.cell? ⟨w_2.heap.size, 0, none⟩ = some (.int .i64 K) := fun X => (HS8.out.2.2.2.below X.ok.out HS8.out.2.2.2.lt).c.1
              have cc1 : ∀ X : Wd (fun W => Hid (Below w8.heap.size w8 W)), X.w.cell? ⟨w_2.heap.size, 1, none⟩ = some (.string S1) := fun X => (HS8.out.2.2.2.below X.ok.out HS8.out.2.2.2.lt).c.2.1
              have cc2 : ∀ X : Wd (fun W => Hid (Below w8.heap.size w8 W)), X.w.cell? ⟨w_2.heap.size, 2, none⟩ = some (.string R1) := fun X => (HS8.out.2.2.2.below X.ok.out HS8.out.2.2.2.lt).c.2.2
              have hne : Nonempty (Wd (fun W => Hid (Below w8.heap.size w8 W))) := ⟨⟨w8, Lib.hid (Below.refl _ _)⟩⟩
              go_wp2_with fail
              refine flow_all (S := (fun W => Hid (Below w8.heap.size w8 W))) (by kernel_rfl) (by kernel_rfl) (Lib.hid (Below.refl _ _).drew) ?_
              try simp only [List.append_eq, List.cons_append, List.nil_append]
              repeat (go_big_quiet_step (first
                | ((with_reducible refine (Q1.out _).mono ?_); rintro e W ⟨rfl, hb⟩; exact ⟨rfl, Wd.on (Wd.ok _) hb⟩)
                | ((with_reducible refine (Q2.out _).mono ?_); rintro e W ⟨rfl, hb⟩; exact ⟨rfl, Wd.on (Wd.ok _) hb⟩)
                | ((with_reducible refine (Q3.out _).mono ?_); rintro e W ⟨rfl, hb⟩; exact ⟨rfl, Wd.on (Wd.ok _) hb⟩)))
              refine wpQuiet_nil ?_
              rintro _ ⟨ZW, rfl⟩
              have HZW := Lib.hid ZW.ok.out
              clear ac0 ac1 ac2 bc0 bc1 bc2 cc0 cc1 cc2 hne
              have RH1 : Hid (Below w.heap.size w ZW.w ∧ Box 24 ZW.w w_1.heap.size N s r ∧ Box 24 ZW.w (w_1.heap.size + 1) M t q ∧ Box 24 ZW.w w_2.heap.size K S1 R1) := ⟨HS8.out.1.trans (HZW.out.mono HS8.out.1.size), HS8.out.2.1.below HZW.out HS8.out.2.1.lt, HS8.out.2.2.1.below HZW.out HS8.out.2.2.1.lt, HS8.out.2.2.2.below HZW.out HS8.out.2.2.2.lt⟩
              clear HS8 HZW
              clear Q1 Q2 Q3
              go_wp2_with fail
              go_loopw [12] (fun i wr => ∃ U : Nat, U ≤ N ∧ i = .int .i64 U ∧ Below w.heap.size w wr ∧ Box 24 wr w_1.heap.size N s r ∧ Box 24 wr (w_1.heap.size + 1) M t q ∧ Box 24 wr w_2.heap.size K S1 R1) (fun i _ => N - (intOf i).toNat)
              case atStart => exact ⟨0, Nat.zero_le _, rfl, RH1.out⟩
              case round =>
                clear RH1
                obtain ⟨U, hleU, rfl, hst⟩ := hrel
                have HS := Lib.hid hst
                clear hst
                by_cases hltU : U < N
                · have tU : decide ((U : Int) < (N : Int)) = true := by simp; omega
                  obtain ⟨a0, a1, a2⟩ := Box.c (HS.out.2.1)
                  obtain ⟨b0, b1, b2⟩ := Box.c (HS.out.2.2.1)
                  obtain ⟨c0, c1, c2⟩ := Box.c (HS.out.2.2.2)
                  go_wp2_with fail
                  go_loopw [13] (fun i wr => ∃ V : Nat, V ≤ M ∧ i = .int .i64 V ∧ Below w.heap.size w wr ∧ Box 24 wr w_1.heap.size N s r ∧ Box 24 wr (w_1.heap.size + 1) M t q ∧ Box 24 wr w_2.heap.size K S1 R1) (fun i _ => M - (intOf i).toNat)
                  case atStart => exact ⟨0, Nat.zero_le _, rfl, HS.out⟩
                  case round =>
                    clear HS
                    obtain ⟨V, hleV, rfl, hst⟩ := hrel
                    have HS := Lib.hid hst
                    clear hst
                    by_cases hltV : V < M
                    · have tV : decide ((V : Int) < (M : Int)) = true := by simp; omega
                      obtain ⟨a0, a1, a2⟩ := Box.c (HS.out.2.1)
                      obtain ⟨b0, b1, b2⟩ := Box.c (HS.out.2.2.1)
                      obtain ⟨c0, c1, c2⟩ := Box.c (HS.out.2.2.2)
                      go_wp2_with fail
                      clear a0 a1 a2 b0 b1 b2 c0 c1 c2
                      obtain ⟨ra, hra⟩ : ∃ b, bitAt r (X * N + U) = b := ⟨_, rfl⟩
                      obtain ⟨rb, hrb⟩ : ∃ b, bitAt q (Y * M + V) = b := ⟨_, rfl⟩
                      obtain ⟨g, hg⟩ : ∃ g : Nat, g = U * M + V := ⟨_, rfl⟩
                      have hgK : g < K := by rw [hg]; exact HF.out.lt U V hltU hltV
                      have hcr := HF.out.br X Y U V hltX hltY hltU hltV
                      rw [← HP.out, ← hg, hra, hrb] at hcr
                      have PP : Hid (∀ W, Calls Tryd.prog 13 #[.agg #[.int .i64 N, .string s, .string r], .agg #[.int .i64 M, .string t, .string q], .int .i64 U, .int .i64 V] W fun e w' => e = .returned (.int .i64 g) ∧ Below W.heap.size W w') := fun W => by
                        have h := impl_PairPlace_any N s r M t q U V W (wf_small (by omega)) (wf_small (by omega)) (by have := HF.out.z; omega) (by have := HF.out.z; omega) (by have := HF.out.z; omega) (by have := HF.out.z; omega)
                        rw [HF.out.pl U V hltU hltV, ← hg] at h
                        exact h
                      cases ra with
                      | false =>
                        have Q1 : Hid (∀ W, Calls Tryd.prog 15 #[.agg #[.int .i64 K, .string S1, .string R1], .int .i64 p, .int .i64 g] W fun e w' => e = .returned (.bool false) ∧ Below W.heap.size W w') := fun W => by
                          have h := inrel.implInRel_any K S1 R1 p g W HF.out.v1 (hpK) (hgK) (by have := HF.out.z; omega) (by have := HF.out.z; omega)
                          rw [hcr] at h
                          exact h
                        have Q2 : Hid (∀ W, Calls Tryd.prog 15 #[.agg #[.int .i64 N, .string s, .string r], .int .i64 X, .int .i64 U] W fun e w' => e = .returned (.bool false) ∧ Below W.heap.size W w') := fun W => by
                          have h := inrel.implInRel_any N s r X U W HF.out.va (hltX) (hltU) (by have := HF.out.z; omega) (by have := HF.out.z; omega)
                          rw [hra] at h
                          exact h
                        clear hra hrb hcr hg
                        have ac0 : ∀ X : Wd (fun W => Hid (Below wr.heap.size wr W)), X.w.cell? ⟨w_1.heap.size, 0, none⟩ = some (.int .i64 N) := fun X => (HS.out.2.1.below X.ok.out HS.out.2.1.lt).c.1
                        have ac1 : ∀ X : Wd (fun W => Hid (Below wr.heap.size wr W)), X.w.cell? ⟨w_1.heap.size, 1, none⟩ = some (.string s) := fun X => (HS.out.2.1.below X.ok.out HS.out.2.1.lt).c.2.1
                        have ac2 : ∀ X : Wd (fun W => Hid (Below wr.heap.size wr W)), X.w.cell? ⟨w_1.heap.size, 2, none⟩ = some (.string r) := fun X => (HS.out.2.1.below X.ok.out HS.out.2.1.lt).c.2.2
                        have bc0 : ∀ X : Wd (fun W => Hid (Below wr.heap.size wr W)), X.w.cell? ⟨(w_1.heap.size + 1), 0, none⟩ = some (.int .i64 M) := fun X => (HS.out.2.2.1.below X.ok.out HS.out.2.2.1.lt).c.1
                        have bc1 : ∀ X : Wd (fun W => Hid (Below wr.heap.size wr W)), X.w.cell? ⟨(w_1.heap.size + 1), 1, none⟩ = some (.string t) := fun X => (HS.out.2.2.1.below X.ok.out HS.out.2.2.1.lt).c.2.1
                        have bc2 : ∀ X : Wd (fun W => Hid (Below wr.heap.size wr W)), X.w.cell? ⟨(w_1.heap.size + 1), 2, none⟩ = some (.string q) := fun X => (HS.out.2.2.1.below X.ok.out HS.out.2.2.1.lt).c.2.2
                        have cc0 : ∀ X : Wd (fun W => Hid (Below wr.heap.size wr W)), X.w.cell? ⟨w_2.heap.size, 0, none⟩ = some (.int .i64 K) := fun X => (HS.out.2.2.2.below X.ok.out HS.out.2.2.2.lt).c.1
                        have cc1 : ∀ X : Wd (fun W => Hid (Below wr.heap.size wr W)), X.w.cell? ⟨w_2.heap.size, 1, none⟩ = some (.string S1) := fun X => (HS.out.2.2.2.below X.ok.out HS.out.2.2.2.lt).c.2.1
                        have cc2 : ∀ X : Wd (fun W => Hid (Below wr.heap.size wr W)), X.w.cell? ⟨w_2.heap.size, 2, none⟩ = some (.string R1) := fun X => (HS.out.2.2.2.below X.ok.out HS.out.2.2.2.lt).c.2.2
                        have hne : Nonempty (Wd (fun W => Hid (Below wr.heap.size wr W))) := ⟨⟨wr, Lib.hid (Below.refl _ _)⟩⟩
                        go_wp2_with fail
                        refine flow_all (S := (fun W => Hid (Below wr.heap.size wr W))) (by kernel_rfl) (by kernel_rfl) (Lib.hid (Below.refl _ _).drew) ?_
                        try simp only [List.append_eq, List.cons_append, List.nil_append]
                        repeat (go_big_quiet_step (first
                          | ((with_reducible refine (PP.out _).mono ?_); rintro e W ⟨rfl, hb⟩; exact ⟨rfl, Wd.on (Wd.ok _) hb⟩)
                          | ((with_reducible refine (Q1.out _).mono ?_); rintro e W ⟨rfl, hb⟩; exact ⟨rfl, Wd.on (Wd.ok _) hb⟩)
                          | ((with_reducible refine (Q2.out _).mono ?_); rintro e W ⟨rfl, hb⟩; exact ⟨rfl, Wd.on (Wd.ok _) hb⟩)))
                        refine wpQuiet_nil ?_
                        rintro _ ⟨ZW, rfl⟩
                        have HZW := Lib.hid ZW.ok.out
                        clear ac0 ac1 ac2 bc0 bc1 bc2 cc0 cc1 cc2 hne
                        have RH2 : Hid (Below w.heap.size w ZW.w ∧ Box 24 ZW.w w_1.heap.size N s r ∧ Box 24 ZW.w (w_1.heap.size + 1) M t q ∧ Box 24 ZW.w w_2.heap.size K S1 R1) := ⟨HS.out.1.trans (HZW.out.mono HS.out.1.size), HS.out.2.1.below HZW.out HS.out.2.1.lt, HS.out.2.2.1.below HZW.out HS.out.2.2.1.lt, HS.out.2.2.2.below HZW.out HS.out.2.2.2.lt⟩
                        clear HS HZW
                        go_wp2
                        go_roundw
                        case rel => first | exact ⟨V + 1, by omega, by go_num, RH2.out⟩ | ((repeat apply Exists.intro); exact ⟨⟨V + 1, by omega, by go_num, RH2.out⟩, rfl⟩)
                        case measure => simp [intOf]; omega
                      | true =>
                        have Q1 : Hid (∀ W, Calls Tryd.prog 15 #[.agg #[.int .i64 K, .string S1, .string R1], .int .i64 p, .int .i64 g] W fun e w' => e = .returned (.bool rb) ∧ Below W.heap.size W w') := fun W => by
                          have h := inrel.implInRel_any K S1 R1 p g W HF.out.v1 (hpK) (hgK) (by have := HF.out.z; omega) (by have := HF.out.z; omega)
                          rw [hcr, Bool.true_and] at h
                          exact h
                        have Q2 : Hid (∀ W, Calls Tryd.prog 15 #[.agg #[.int .i64 N, .string s, .string r], .int .i64 X, .int .i64 U] W fun e w' => e = .returned (.bool true) ∧ Below W.heap.size W w') := fun W => by
                          have h := inrel.implInRel_any N s r X U W HF.out.va (hltX) (hltU) (by have := HF.out.z; omega) (by have := HF.out.z; omega)
                          rw [hra] at h
                          exact h
                        have Q3 : Hid (∀ W, Calls Tryd.prog 15 #[.agg #[.int .i64 M, .string t, .string q], .int .i64 Y, .int .i64 V] W fun e w' => e = .returned (.bool rb) ∧ Below W.heap.size W w') := fun W => by
                          have h := inrel.implInRel_any M t q Y V W HF.out.vb (hltY) (hltV) (by have := HF.out.z; omega) (by have := HF.out.z; omega)
                          rw [hrb] at h
                          exact h
                        clear hra hrb hcr hg
                        have hrr : (rb != rb) = false := by cases rb <;> rfl
                        have ac0 : ∀ X : Wd (fun W => Hid (Below wr.heap.size wr W)), X.w.cell? ⟨w_1.heap.size, 0, none⟩ = some (.int .i64 N) := fun X => (HS.out.2.1.below X.ok.out HS.out.2.1.lt).c.1
                        have ac1 : ∀ X : Wd (fun W => Hid (Below wr.heap.size wr W)), X.w.cell? ⟨w_1.heap.size, 1, none⟩ = some (.string s) := fun X => (HS.out.2.1.below X.ok.out HS.out.2.1.lt).c.2.1
                        have ac2 : ∀ X : Wd (fun W => Hid (Below wr.heap.size wr W)), X.w.cell? ⟨w_1.heap.size, 2, none⟩ = some (.string r) := fun X => (HS.out.2.1.below X.ok.out HS.out.2.1.lt).c.2.2
                        have bc0 : ∀ X : Wd (fun W => Hid (Below wr.heap.size wr W)), X.w.cell? ⟨(w_1.heap.size + 1), 0, none⟩ = some (.int .i64 M) := fun X => (HS.out.2.2.1.below X.ok.out HS.out.2.2.1.lt).c.1
                        have bc1 : ∀ X : Wd (fun W => Hid (Below wr.heap.size wr W)), X.w.cell? ⟨(w_1.heap.size + 1), 1, none⟩ = some (.string t) := fun X => (HS.out.2.2.1.below X.ok.out HS.out.2.2.1.lt).c.2.1
                        have bc2 : ∀ X : Wd (fun W => Hid (Below wr.heap.size wr W)), X.w.cell? ⟨(w_1.heap.size + 1), 2, none⟩ = some (.string q) := fun X => (HS.out.2.2.1.below X.ok.out HS.out.2.2.1.lt).c.2.2
                        have cc0 : ∀ X : Wd (fun W => Hid (Below wr.heap.size wr W)), X.w.cell? ⟨w_2.heap.size, 0, none⟩ = some (.int .i64 K) := fun X => (HS.out.2.2.2.below X.ok.out HS.out.2.2.2.lt).c.1
                        have cc1 : ∀ X : Wd (fun W => Hid (Below wr.heap.size wr W)), X.w.cell? ⟨w_2.heap.size, 1, none⟩ = some (.string S1) := fun X => (HS.out.2.2.2.below X.ok.out HS.out.2.2.2.lt).c.2.1
                        have cc2 : ∀ X : Wd (fun W => Hid (Below wr.heap.size wr W)), X.w.cell? ⟨w_2.heap.size, 2, none⟩ = some (.string R1) := fun X => (HS.out.2.2.2.below X.ok.out HS.out.2.2.2.lt).c.2.2
                        have hne : Nonempty (Wd (fun W => Hid (Below wr.heap.size wr W))) := ⟨⟨wr, Lib.hid (Below.refl _ _)⟩⟩
                        go_wp2_with fail
                        refine flow_all (S := (fun W => Hid (Below wr.heap.size wr W))) (by kernel_rfl) (by kernel_rfl) (Lib.hid (Below.refl _ _).drew) ?_
                        try simp only [List.append_eq, List.cons_append, List.nil_append]
                        repeat (go_big_quiet_step (first
                          | ((with_reducible refine (PP.out _).mono ?_); rintro e W ⟨rfl, hb⟩; exact ⟨rfl, Wd.on (Wd.ok _) hb⟩)
                          | ((with_reducible refine (Q1.out _).mono ?_); rintro e W ⟨rfl, hb⟩; exact ⟨rfl, Wd.on (Wd.ok _) hb⟩)
                          | ((with_reducible refine (Q2.out _).mono ?_); rintro e W ⟨rfl, hb⟩; exact ⟨rfl, Wd.on (Wd.ok _) hb⟩)
                          | ((with_reducible refine (Q3.out _).mono ?_); rintro e W ⟨rfl, hb⟩; exact ⟨rfl, Wd.on (Wd.ok _) hb⟩)))
                        refine wpQuiet_nil ?_
                        rintro _ ⟨ZW, rfl⟩
                        have HZW := Lib.hid ZW.ok.out
                        clear ac0 ac1 ac2 bc0 bc1 bc2 cc0 cc1 cc2 hne
                        have RH2 : Hid (Below w.heap.size w ZW.w ∧ Box 24 ZW.w w_1.heap.size N s r ∧ Box 24 ZW.w (w_1.heap.size + 1) M t q ∧ Box 24 ZW.w w_2.heap.size K S1 R1) := ⟨HS.out.1.trans (HZW.out.mono HS.out.1.size), HS.out.2.1.below HZW.out HS.out.2.1.lt, HS.out.2.2.1.below HZW.out HS.out.2.2.1.lt, HS.out.2.2.2.below HZW.out HS.out.2.2.2.lt⟩
                        clear HS HZW
                        go_wp2
                        go_roundw
                        case rel => first | exact ⟨V + 1, by omega, by go_num, RH2.out⟩ | ((repeat apply Exists.intro); exact ⟨⟨V + 1, by omega, by go_num, RH2.out⟩, rfl⟩)
                        case measure => simp [intOf]; omega
                    · have tV : decide ((V : Int) < (M : Int)) = false := by simp; omega
                      obtain ⟨a0, a1, a2⟩ := Box.c (HS.out.2.1)
                      obtain ⟨b0, b1, b2⟩ := Box.c (HS.out.2.2.1)
                      obtain ⟨c0, c1, c2⟩ := Box.c (HS.out.2.2.2)
                      go_wp2
                      go_roundw
                      case rel => first | exact ⟨U + 1, by omega, by go_num, HS.out⟩ | ((repeat apply Exists.intro); exact ⟨⟨U + 1, by omega, by go_num, HS.out⟩, rfl⟩)
                      case measure => simp [intOf]; omega
                · have tU : decide ((U : Int) < (N : Int)) = false := by simp; omega
                  obtain ⟨a0, a1, a2⟩ := Box.c (HS.out.2.1)
                  obtain ⟨b0, b1, b2⟩ := Box.c (HS.out.2.2.1)
                  obtain ⟨c0, c1, c2⟩ := Box.c (HS.out.2.2.2)
                  go_wp2
                  go_roundw
                  case rel => first | exact ⟨Y + 1, by omega, by go_num, HS.out⟩ | ((repeat apply Exists.intro); exact ⟨⟨Y + 1, by omega, by go_num, HS.out⟩, rfl⟩)
                  case measure => simp [intOf]; omega
          · have tY : decide ((Y : Int) < (M : Int)) = false := by simp; omega
            obtain ⟨a0, a1, a2⟩ := Box.c (HS.out.2.1)
            obtain ⟨b0, b1, b2⟩ := Box.c (HS.out.2.2.1)
            obtain ⟨c0, c1, c2⟩ := Box.c (HS.out.2.2.2)
            go_wp2
            go_roundw
            case rel => first | exact ⟨X + 1, by omega, by go_num, HS.out⟩ | ((repeat apply Exists.intro); exact ⟨⟨X + 1, by omega, by go_num, HS.out⟩, rfl⟩)
            case measure => simp [intOf]; omega
      · have tX : decide ((X : Int) < (N : Int)) = false := by simp; omega
        obtain ⟨a0, a1, a2⟩ := Box.c (HS.out.2.1)
        obtain ⟨b0, b1, b2⟩ := Box.c (HS.out.2.2.1)
        obtain ⟨c0, c1, c2⟩ := Box.c (HS.out.2.2.2)
        have AW_90 := Lib.hid HS.out.1
        have FA_90 := Lib.hid HS.out.2.1
        have FB_90 := Lib.hid HS.out.2.2.1
        have FC_90 := Lib.hid HS.out.2.2.2
        clear HS a0 a1 a2 b0 b1 b2 c0 c1 c2
        obtain ⟨b0, b1, b2⟩ := Box.c FB_90.out
        obtain ⟨a0, a1, a2⟩ := Box.c FA_90.out
        go_wp2_with fail
        clear  b0 b1 b2 a0 a1 a2
        refine ((HC3).out _).mono ?_
        rintro e w_91 ⟨rfl, hb⟩
        have hbn := hb
        have FA_91 := Lib.hid (FA_90.out.below hbn FA_90.out.lt)
        have FB_91 := Lib.hid (FB_90.out.below hbn FB_90.out.lt)
        have FC_91 := Lib.hid (FC_90.out.below hbn FC_90.out.lt)
        have AW_91 : Hid (Below w.heap.size w w_91) := AW_90.out.trans (hbn.mono AW_90.out.size)
        clear hbn AW_90 FA_90 FB_90 FC_90
        clear hb
        have Fd_91 : Hid (Box 24 (w_91.alloc (.cells #[.int .i64 K, .string S2, .string R2] 24)) (w_91.heap.size) K S2 R2) := Box.new _ w_91 (w_91.heap.size) (by simp) _ _ _
        obtain ⟨c0, c1, c2⟩ := Box.c (FC_91.out.below ((Below.refl w_91.heap.size w_91).alloc (by simp) (.cells #[.int .i64 K, .string S2, .string R2] 24)) FC_91.out.lt)
        obtain ⟨c_0, c_1, c_2⟩ := Box.c FC_91.out
        have clt := FC_91.out.lt
        obtain ⟨d0, d1, d2⟩ := Box.c Fd_91.out
        go_wp2_with fail
        clear  c0 c1 c2 c_0 c_1 c_2 clt d0 d1 d2
        refine (shape.implSameShape_any K S1 R1 K S2 R2 _ (by have := HF.out.z; omega) (by have := HF.out.z; omega) (by have := HF.out.z; omega) (by have := HF.out.z; omega)).mono ?_
        rintro e w_92 ⟨vS, rfl, hb⟩
        have hbn : Below w_91.heap.size w_91 w_92 := ((Below.refl w_91.heap.size w_91).alloc (by simp) (.cells #[.int .i64 K, .string S2, .string R2] 24)).trans (hb.mono (show w_91.heap.size ≤ _ by simp))
        have FA_92 := Lib.hid (FA_91.out.below hbn FA_91.out.lt)
        have FB_92 := Lib.hid (FB_91.out.below hbn FB_91.out.lt)
        have FC_92 := Lib.hid (FC_91.out.below hbn FC_91.out.lt)
        have Fd_92 := Lib.hid (Fd_91.out.below hb (by simp))
        have AW_92 : Hid (Below w.heap.size w w_92) := AW_91.out.trans (hbn.mono AW_91.out.size)
        clear hbn AW_91 FA_91 FB_91 FC_91 Fd_91
        rw [HF.out.sh]
        clear hb
        obtain ⟨on, hon⟩ : ∃ on, on = one := ⟨_, rfl⟩
        have HON := Lib.hid hon
        clear hon
        obtain ⟨a0, a1, a2⟩ := Box.c FA_92.out
        go_wp2_with fail
        clear  a0 a1 a2
        refine ((HC4).out _).mono ?_
        rintro e w_93 ⟨rfl, hb⟩
        have hbn := hb
        have FA_93 := Lib.hid (FA_92.out.below hbn FA_92.out.lt)
        have FB_93 := Lib.hid (FB_92.out.below hbn FB_92.out.lt)
        have FC_93 := Lib.hid (FC_92.out.below hbn FC_92.out.lt)
        have Fd_93 := Lib.hid (Fd_92.out.below hbn Fd_92.out.lt)
        have AW_93 : Hid (Below w.heap.size w w_93) := AW_92.out.trans (hbn.mono AW_92.out.size)
        clear hbn AW_92 FA_92 FB_92 FC_92 Fd_92
        clear hb
        have Fe_93 : Hid (Box 24 (w_93.alloc (.cells #[.int .i64 N, .string s, .string r] 24)) (w_93.heap.size) N s r) := Box.new _ w_93 (w_93.heap.size) (by simp) _ _ _
        obtain ⟨a0, a1, a2⟩ := Box.c (FA_93.out.below ((Below.refl w_93.heap.size w_93).alloc (by simp) (.cells #[.int .i64 N, .string s, .string r] 24)) FA_93.out.lt)
        obtain ⟨a_0, a_1, a_2⟩ := Box.c FA_93.out
        have alt := FA_93.out.lt
        obtain ⟨e0, e1, e2⟩ := Box.c Fe_93.out
        have q2 := eq_struct N s r
        go_wp2
        go_ret
        exact ⟨rfl, AW_93.out.trans (((Below.refl w_93.heap.size w_93).alloc (by simp) (.cells #[.int .i64 N, .string s, .string r] 24)).mono AW_93.out.size)⟩
end Go.Proofs.YtefneihlgclkbaaDoor.fnProdW
