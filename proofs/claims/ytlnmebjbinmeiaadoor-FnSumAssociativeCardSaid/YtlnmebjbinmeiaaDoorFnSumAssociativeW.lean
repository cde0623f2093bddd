/- FnSumAssociative: the walk. -/
import Derived.Test.YtlnmebjbinmeiaaDoorDrawG
import Derived.Test.YtlnmebjbinmeiaaDoorAssoc
import Derived.Test.YtlnmebjbinmeiaaDoorRow
namespace Go.Proofs.YtlnmebjbinmeiaaDoor.fnAssocW
set_option linter.unusedVariables false
set_option linter.unusedSimpArgs false
open Go.ChangeShapes Go.WideShapes Go.ChangeAt Go.RowKit
open Go.Proofs.YtlnmebjbinmeiaaDoor.flow Go.Proofs.YtlnmebjbinmeiaaDoor.lib Go.Proofs.YtlnmebjbinmeiaaDoor.st Go.Proofs.YtlnmebjbinmeiaaDoor.draw Go.Proofs.YtlnmebjbinmeiaaDoor.base Go.Proofs.YtlnmebjbinmeiaaDoor.make Go.Proofs.YtlnmebjbinmeiaaDoor.prod Go.Proofs.YtlnmebjbinmeiaaDoor.sum Go.Proofs.YtlnmebjbinmeiaaDoor.val Go.Proofs.YtlnmebjbinmeiaaDoor.assoc
/-- bytes that came in may be drawn from -/
theorem byt_of_row {w : World} {a : Option Addr} {n c : Nat} {zs : List Int} (h : row.IsRow .u8 w a n c zs) : Byt w w.heap.size a n ∧ n ≤ c ∧ c ≤ 9223372036854775807 := by
  rcases h with ⟨rfl, rfl, rfl, rfl⟩ | ⟨x, rfl, hl, hm, hz, hcell, hwf⟩
  · exact ⟨.inl rfl, Nat.le_refl _, by omega⟩
  · refine ⟨?_, hl, hm⟩
    by_cases h0 : n = 0
    · exact .inl h0
    · obtain ⟨b, off, spot⟩ := x
      have hc := hcell 0 (by omega)
      have hspot : spot = none := by simpa [Addr.add] using World.cell?_spot hc
      subst hspot
      have hlt := World.block_lt_of_cell? w _ hc
      refine .inr ⟨b, off, rfl, by simpa [Addr.add] using hlt, fun i hi => ?_⟩
      have hci := hcell i (by omega)
      have hw := hwf (zs.getD i 0) (by rw [List.getD_eq_getElem?_getD, List.getElem?_eq_getElem (by omega)]; exact List.getElem_mem _)
      have hb : 0 ≤ zs.getD i 0 ∧ zs.getD i 0 ≤ 255 := by
        generalize zs.getD i 0 = z at hw ⊢
        simp only [Lit.wf, IntKind.min, IntKind.max, IntKind.signed, IntKind.bits, Bool.and_eq_true, decide_eq_true_eq] at hw
        simp at hw
        omega
      refine ⟨(zs.getD i 0).toNat, by omega, ?_⟩
      rw [show (⟨b, off, none⟩ : Addr).add i = ⟨b, off + i, none⟩ from by simp only [Addr.add]; split <;> simp [*]] at hci
      rw [hci, show (((zs.getD i 0).toNat : Nat) : Int) = zs.getD i 0 from by omega]

theorem neq_struct (n : Int) (s r : ByteArray) (w : World) : (binOp .neq 25 (.agg #[.int .i64 n, .string s, .string r]) (.agg #[.int .i64 n, .string s, .string r])).run Tryd.prog w = .ok (.bool false) w := by
  have u3 := Tryd.underlying3
  have a3 := Tryd.isAgg3
  have z3 := Tryd.sizeOf3
  have u4 := Tryd.underlying9
  have a4 := Tryd.isAgg9
  have z4 := Tryd.sizeOf9
  have hS : Tryd.prog.underlying 25 = some (.struct (Tryd.prog.fieldsOf 25)) := by kernel_rfl
  have hp : Tryd.prog.stoodInHeld 25 = false := by kernel_rfl
  rw [run_neq_struct, show (10000 : Nat) = 9999 + 1 from rfl, run_equalIn_agg w 9999 25 _ _ hS hp]
  simp only [Program.fieldsOf, Tryd.underlying25]
  go_simp
/-- the sums of both first ones -/
theorem both {n : Int} {s r : ByteArray} {m : Int} {t q : ByteArray} (hn : (Lit.int .i64 n).wf = true) (hm : (Lit.int .i64 m).wf = true) (hs : s.size ≤ 100) (hr : r.size ≤ 100) (ht : t.size ≤ 100) (hq : q.size ≤ 100) :
    (∃ (x : Int) (y z : ByteArray), SC 34 n s r m t q x y z false ∧ SC 35 n s r m t q x y z false) ∨
    (∃ (N M : Nat), n = N ∧ m = M ∧ validB N s r = true ∧ validB M t q = true ∧ N + M ≤ 8 ∧ SC 34 n s r m t q (N + M : Nat) (s ++ t) (bR (sumRel true N r M q) (N + M) (N + M)) true ∧ SC 35 n s r m t q (N + M : Nat) (s ++ t) (bR (sumRel true N r M q) (N + M) (N + M)) true ∧ SC 36 n s r m t q (N + M : Nat) (s ++ t) (bR (sumRel false N r M q) (N + M) (N + M)) true) := by
  have c1 := sc_ord (n := n) (s := s) (r := r) (m := m) (t := t) (q := q) (by omega) (by omega) (by omega) (by omega)
  have c3 := sc_dis (n := n) (s := s) (r := r) (m := m) (t := t) (q := q) (by omega) (by omega) (by omega) (by omega)
  have c2 : SC 35 n s r m t q (sn n s r m t q) (ss n s r m t q) (sr true n s r m t q) (okS n s r m t q) := fun W => specOrderedSum_any n s r m t q W hn hm (by omega) (by omega) (by omega) (by omega)
  cases hk : okS n s r m t q with
  | false =>
    rw [hk] at c1 c2
    exact .inl ⟨_, _, _, c1, c2⟩
  | true =>
    obtain ⟨hv1, hv2, h8⟩ : validB n s r = true ∧ validB m t q = true ∧ n + m ≤ 8 := by simpa [okS] using hk
    obtain ⟨N, rfl, hN1, hN8, hsN, hrN⟩ := valid_size hv1
    obtain ⟨M, rfl, hM1, hM8, hsM, hrM⟩ := valid_size hv2
    obtain ⟨x1, x2, x3⟩ := s_yes (K := N + M) true rfl hk
    obtain ⟨y1, y2, y3⟩ := s_yes (K := N + M) false rfl hk
    rw [x1, x2, x3, hk] at c1 c2
    rw [y1, y2, y3, hk] at c3
    exact .inr ⟨N, M, rfl, rfl, hv1, hv2, by omega, c1, c2, c3⟩

set_option maxHeartbeats 40000000 in
set_option maxRecDepth 100000 in
theorem walk (a0 : Option Addr) (n0 c0 : Nat) (l0 : List Int) (a1 : Option Addr) (n1 c1 : Nat) (l1 : List Int) (w : World) (h0 : row.IsRow .u8 w a0 n0 c0 l0) (h1 : row.IsRow .u8 w a1 n1 c1 l1) :
    Calls Tryd.prog 9 #[.slice a0 n0 c0, .slice a1 n1 c1] w fun e w' => e = .returned (.bool true) ∧ Below w.heap.size w w' := by
  obtain ⟨by0, nc0, cm0⟩ := byt_of_row h0
  obtain ⟨by1, nc1, cm1⟩ := byt_of_row h1
  have BY0 := Lib.hid by0
  have BY1 := Lib.hid by1
  clear by0 by1 h0 h1
  by_cases hg0 : 1048576 < n0
  · go_enter Tryd.func9, Tryd.ntmps9
    go_wp2
    go_ret
    exact ⟨rfl, Below.refl _ _⟩
  by_cases hg1 : 1048576 < n1
  · go_enter Tryd.func9, Tryd.ntmps9
    go_wp2
    go_ret
    exact ⟨rfl, Below.refl _ _⟩
  go_enter Tryd.func9, Tryd.ntmps9
  have AW_0 : Hid (Below w.heap.size w w) := Below.refl _ _
  go_wp2_with fail
  refine (drawOrderedSum_any a0 n0 c0 _ BY0.out nc0 cm0).mono ?_
  rintro e w_1 ⟨n, s, r, m, t, q, rfl, hnw, hs, hr, hmw, ht, hq, hb⟩
  have hbn := hb
  have AW_1 : Hid (Below w.heap.size w w_1) := AW_0.out.trans (hbn.mono AW_0.out.size)
  clear hbn AW_0 
  have FA_1 : Hid (Box 25 (w_1.alloc (.cells #[.int .i64 n, .string s, .string r] 25)) (w_1.heap.size) n s r) := Box.new _ w_1 (w_1.heap.size) (by simp) _ _ _
  have FA_1 := Lib.hid (FA_1.out.below ((Below.refl (w_1.heap.size + 1) _).alloc (by simp) (.cells #[.int .i64 m, .string t, .string q] 25)) (by omega))
  have FB_1 : Hid (Box 25 ((w_1.alloc (.cells #[.int .i64 n, .string s, .string r] 25)).alloc (.cells #[.int .i64 m, .string t, .string q] 25)) (w_1.heap.size + 1) m t q) := Box.new _ (w_1.alloc (.cells #[.int .i64 n, .string s, .string r] 25)) (w_1.heap.size + 1) (by simp) _ _ _
  clear hb
  obtain ⟨x, y, z, hc1, hc2⟩ | ⟨N, M, rfl, rfl, hv1, hv2, h8, hc1, hc2, hc3⟩ := both hnw hmw hs hr ht hq
  · have HC1 := Lib.hid hc1
    have HC2 := Lib.hid hc2
    clear hc1 hc2
    obtain ⟨a0, a1, a2⟩ := Box.c FA_1.out
    obtain ⟨b0, b1, b2⟩ := Box.c FB_1.out
    go_wp2_with fail
    clear a0 a1 a2 b0 b1 b2
    refine ((HC1).out _).mono ?_
    rintro e w_2 ⟨rfl, hb⟩
    have hbn : Below w_1.heap.size w_1 w_2 := (((Below.refl w_1.heap.size w_1).alloc (by simp) (.cells #[.int .i64 n, .string s, .string r] 25)).alloc (by simp) (.cells #[.int .i64 m, .string t, .string q] 25)).trans (hb.mono (by simp <;> omega))
    have FA_2 := Lib.hid (FA_1.out.below hb (by simp <;> omega))
    have FB_2 := Lib.hid (FB_1.out.below hb (by simp <;> omega))
    have AW_2 : Hid (Below w.heap.size w w_2) := AW_1.out.trans (hbn.mono AW_1.out.size)
    clear hbn AW_1 FA_1 FB_1
    clear hb
    have FC_2 : Hid (Box 25 (w_2.alloc (.cells #[.int .i64 x, .string y, .string z] 25)) (w_2.heap.size) x y z) := Box.new _ w_2 (w_2.heap.size) (by simp) _ _ _
    obtain ⟨a0, a1, a2⟩ := Box.c (FA_2.out.below ((Below.refl w_2.heap.size w_2).alloc (by simp) (.cells #[.int .i64 x, .string y, .string z] 25)) FA_2.out.lt)
    obtain ⟨a_0, a_1, a_2⟩ := Box.c FA_2.out
    have alt := FA_2.out.lt
    obtain ⟨b0, b1, b2⟩ := Box.c (FB_2.out.below ((Below.refl w_2.heap.size w_2).alloc (by simp) (.cells #[.int .i64 x, .string y, .string z] 25)) FB_2.out.lt)
    obtain ⟨b_0, b_1, b_2⟩ := Box.c FB_2.out
    have blt := FB_2.out.lt
    go_wp2_with fail
    clear a0 a1 a2 a_0 a_1 a_2 alt b0 b1 b2 b_0 b_1 b_2 blt
    refine ((HC2).out _).mono ?_
    rintro e w_3 ⟨rfl, hb⟩
    have hbn : Below w_2.heap.size w_2 w_3 := ((Below.refl w_2.heap.size w_2).alloc (by simp) (.cells #[.int .i64 x, .string y, .string z] 25)).trans (hb.mono (by simp))
    have FA_3 := Lib.hid (FA_2.out.below hbn FA_2.out.lt)
    have FB_3 := Lib.hid (FB_2.out.below hbn FB_2.out.lt)
    have FC_3 := Lib.hid (FC_2.out.below hb (by simp))
    have AW_3 : Hid (Below w.heap.size w w_3) := AW_2.out.trans (hbn.mono AW_2.out.size)
    clear hbn AW_2 FA_2 FB_2 FC_2
    clear hb
    have FD_3 : Hid (Box 25 (w_3.alloc (.cells #[.int .i64 x, .string y, .string z] 25)) (w_3.heap.size) x y z) := Box.new _ w_3 (w_3.heap.size) (by simp) _ _ _
    go_wp2_with fail
    refine (drawOrderedSum_any a1 n1 c1 _ (BY1.out.up (Nat.le_trans AW_3.out.size (((Below.refl w_3.heap.size w_3).alloc (by simp) (.cells #[.int .i64 x, .string y, .string z] 25))).size) (fun k hk => by rw [(((Below.refl w_3.heap.size w_3).alloc (by simp) (.cells #[.int .i64 x, .string y, .string z] 25))).block k (Nat.lt_of_lt_of_le hk AW_3.out.size)]; exact AW_3.out.block k hk)) nc1 cm1).mono ?_
    rintro e w_4 ⟨k, u, v, k2, u2, v2, rfl, -, -, -, -, -, -, hb⟩
    have hbn : Below w_3.heap.size w_3 w_4 := ((Below.refl w_3.heap.size w_3).alloc (by simp) (.cells #[.int .i64 x, .string y, .string z] 25)).trans (hb.mono (by simp))
    have FA_4 := Lib.hid (FA_3.out.below hbn FA_3.out.lt)
    have FB_4 := Lib.hid (FB_3.out.below hbn FB_3.out.lt)
    have FC_4 := Lib.hid (FC_3.out.below hbn FC_3.out.lt)
    have FD_4 := Lib.hid (FD_3.out.below hb (by simp))
    have AW_4 : Hid (Below w.heap.size w w_4) := AW_3.out.trans (hbn.mono AW_3.out.size)
    clear hbn AW_3 FA_3 FB_3 FC_3 FD_3
    have FE_4 : Hid (Box 25 (w_4.alloc (.cells #[.int .i64 k, .string u, .string v] 25)) (w_4.heap.size) k u v) := Box.new _ w_4 (w_4.heap.size) (by simp) _ _ _
    have FE_4 := Lib.hid (FE_4.out.below ((Below.refl (w_4.heap.size + 1) _).alloc (by simp) (.cells #[.int .i64 k2, .string u2, .string v2] 25)) (by omega))
    have FG_4 : Hid (Box 25 ((w_4.alloc (.cells #[.int .i64 k, .string u, .string v] 25)).alloc (.cells #[.int .i64 k2, .string u2, .string v2] 25)) (w_4.heap.size + 1) k2 u2 v2) := Box.new _ (w_4.alloc (.cells #[.int .i64 k, .string u, .string v] 25)) (w_4.heap.size + 1) (by simp) _ _ _
    clear hb
    obtain ⟨c0, c1, c2⟩ := Box.c (FC_4.out.below (((Below.refl w_4.heap.size w_4).alloc (by simp) (.cells #[.int .i64 k, .string u, .string v] 25)).alloc (by simp) (.cells #[.int .i64 k2, .string u2, .string v2] 25)) FC_4.out.lt)
    obtain ⟨c_0, c_1, c_2⟩ := Box.c FC_4.out
    have clt := FC_4.out.lt
    obtain ⟨d0, d1, d2⟩ := Box.c (FD_4.out.below (((Below.refl w_4.heap.size w_4).alloc (by simp) (.cells #[.int .i64 k, .string u, .string v] 25)).alloc (by simp) (.cells #[.int .i64 k2, .string u2, .string v2] 25)) FD_4.out.lt)
    obtain ⟨d_0, d_1, d_2⟩ := Box.c FD_4.out
    have dlt := FD_4.out.lt
    have q1 := neq_struct x y z
    have q2 := eq_struct x y z
    go_wp2
    go_ret
    exact ⟨rfl, AW_4.out.trans ((((Below.refl w_4.heap.size w_4).alloc (by simp) (.cells #[.int .i64 k, .string u, .string v] 25)).alloc (by simp) (.cells #[.int .i64 k2, .string u2, .string v2] 25)).mono AW_4.out.size)⟩
  · have HC1 := Lib.hid hc1
    have HC2 := Lib.hid hc2
    have HC3 := Lib.hid hc3
    have HZ := Lib.hid (show _ ∧ _ ∧ _ ∧ _ from ⟨hs, hr, ht, hq⟩)
    have HVV := Lib.hid (show _ ∧ _ ∧ _ from ⟨hv1, hv2, h8⟩)
    clear hc1 hc2 hc3 hs hr ht hq hv1 hv2 h8 hnw hmw
    obtain ⟨S1, hS1⟩ : ∃ S1, S1 = s ++ t := ⟨_, rfl⟩
    obtain ⟨R1, hR1⟩ : ∃ R1, R1 = bR (sumRel true N r M q) (N + M) (N + M) := ⟨_, rfl⟩
    obtain ⟨R2, hR2⟩ : ∃ R2, R2 = bR (sumRel false N r M q) (N + M) (N + M) := ⟨_, rfl⟩
    rw [← hS1, ← hR1] at HC1 HC2
    rw [← hS1, ← hR2] at HC3
    have HS1 := Lib.hid hS1
    have HR1 := Lib.hid hR1
    have HR2 := Lib.hid hR2
    clear hS1 hR1 hR2
    obtain ⟨a0, a1, a2⟩ := Box.c FA_1.out
    obtain ⟨b0, b1, b2⟩ := Box.c FB_1.out
    go_wp2_with fail
    clear a0 a1 a2 b0 b1 b2
    refine ((HC1).out _).mono ?_
    rintro e w_2 ⟨rfl, hb⟩
    have hbn : Below w_1.heap.size w_1 w_2 := (((Below.refl w_1.heap.size w_1).alloc (by simp) (.cells #[.int .i64 N, .string s, .string r] 25)).alloc (by simp) (.cells #[.int .i64 M, .string t, .string q] 25)).trans (hb.mono (by simp <;> omega))
    have FA_2 := Lib.hid (FA_1.out.below hb (by simp <;> omega))
    have FB_2 := Lib.hid (FB_1.out.below hb (by simp <;> omega))
    have AW_2 : Hid (Below w.heap.size w w_2) := AW_1.out.trans (hbn.mono AW_1.out.size)
    clear hbn AW_1 FA_1 FB_1
    clear hb
    have FC_2 : Hid (Box 25 (w_2.alloc (.cells #[.int .i64 (N + M : Nat), .string S1, .string R1] 25)) (w_2.heap.size) (N + M : Nat) S1 R1) := Box.new _ w_2 (w_2.heap.size) (by simp) _ _ _
    obtain ⟨a0, a1, a2⟩ := Box.c (FA_2.out.below ((Below.refl w_2.heap.size w_2).alloc (by simp) (.cells #[.int .i64 (N + M : Nat), .string S1, .string R1] 25)) FA_2.out.lt)
    obtain ⟨a_0, a_1, a_2⟩ := Box.c FA_2.out
    have alt := FA_2.out.lt
    obtain ⟨b0, b1, b2⟩ := Box.c (FB_2.out.below ((Below.refl w_2.heap.size w_2).alloc (by simp) (.cells #[.int .i64 (N + M : Nat), .string S1, .string R1] 25)) FB_2.out.lt)
    obtain ⟨b_0, b_1, b_2⟩ := Box.c FB_2.out
    have blt := FB_2.out.lt
    go_wp2_with fail
    clear a0 a1 a2 a_0 a_1 a_2 alt b0 b1 b2 b_0 b_1 b_2 blt
    refine ((HC2).out _).mono ?_
    rintro e w_3 ⟨rfl, hb⟩
    have hbn : Below w_2.heap.size w_2 w_3 := ((Below.refl w_2.heap.size w_2).alloc (by simp) (.cells #[.int .i64 (N + M : Nat), .string S1, .string R1] 25)).trans (hb.mono (by simp))
    have FA_3 := Lib.hid (FA_2.out.below hbn FA_2.out.lt)
    have FB_3 := Lib.hid (FB_2.out.below hbn FB_2.out.lt)
    have FC_3 := Lib.hid (FC_2.out.below hb (by simp))
    have AW_3 : Hid (Below w.heap.size w w_3) := AW_2.out.trans (hbn.mono AW_2.out.size)
    clear hbn AW_2 FA_2 FB_2 FC_2
    clear hb
    have FD_3 : Hid (Box 25 (w_3.alloc (.cells #[.int .i64 (N + M : Nat), .string S1, .string R1] 25)) (w_3.heap.size) (N + M : Nat) S1 R1) := Box.new _ w_3 (w_3.heap.size) (by simp) _ _ _
    go_wp2_with fail
    refine (drawOrderedSum_any a1 n1 c1 _ (BY1.out.up (Nat.le_trans AW_3.out.size (((Below.refl w_3.heap.size w_3).alloc (by simp) (.cells #[.int .i64 (N + M : Nat), .string S1, .string R1] 25))).size) (fun k hk => by rw [(((Below.refl w_3.heap.size w_3).alloc (by simp) (.cells #[.int .i64 (N + M : Nat), .string S1, .string R1] 25))).block k (Nat.lt_of_lt_of_le hk AW_3.out.size)]; exact AW_3.out.block k hk)) nc1 cm1).mono ?_
    rintro e w_4 ⟨k2, u2, v2, k, u, v, rfl, -, -, -, hkw, hu, hv, hb⟩
    have hbn : Below w_3.heap.size w_3 w_4 := ((Below.refl w_3.heap.size w_3).alloc (by simp) (.cells #[.int .i64 (N + M : Nat), .string S1, .string R1] 25)).trans (hb.mono (by simp))
    have FA_4 := Lib.hid (FA_3.out.below hbn FA_3.out.lt)
    have FB_4 := Lib.hid (FB_3.out.below hbn FB_3.out.lt)
    have FC_4 := Lib.hid (FC_3.out.below hbn FC_3.out.lt)
    have FD_4 := Lib.hid (FD_3.out.below hb (by simp))
    have AW_4 : Hid (Below w.heap.size w w_4) := AW_3.out.trans (hbn.mono AW_3.out.size)
    clear hbn AW_3 FA_3 FB_3 FC_3 FD_3
    have FE_4 : Hid (Box 25 (w_4.alloc (.cells #[.int .i64 k2, .string u2, .string v2] 25)) (w_4.heap.size) k2 u2 v2) := Box.new _ w_4 (w_4.heap.size) (by simp) _ _ _
    have FE_4 := Lib.hid (FE_4.out.below ((Below.refl (w_4.heap.size + 1) _).alloc (by simp) (.cells #[.int .i64 k, .string u, .string v] 25)) (by omega))
    have FG_4 : Hid (Box 25 ((w_4.alloc (.cells #[.int .i64 k2, .string u2, .string v2] 25)).alloc (.cells #[.int .i64 k, .string u, .string v] 25)) (w_4.heap.size + 1) k u v) := Box.new _ (w_4.alloc (.cells #[.int .i64 k2, .string u2, .string v2] 25)) (w_4.heap.size + 1) (by simp) _ _ _
    clear hb
    obtain ⟨c0, c1, c2⟩ := Box.c (FC_4.out.below (((Below.refl w_4.heap.size w_4).alloc (by simp) (.cells #[.int .i64 k2, .string u2, .string v2] 25)).alloc (by simp) (.cells #[.int .i64 k, .string u, .string v] 25)) FC_4.out.lt)
    obtain ⟨c_0, c_1, c_2⟩ := Box.c FC_4.out
    have clt := FC_4.out.lt
    obtain ⟨d0, d1, d2⟩ := Box.c (FD_4.out.below (((Below.refl w_4.heap.size w_4).alloc (by simp) (.cells #[.int .i64 k2, .string u2, .string v2] 25)).alloc (by simp) (.cells #[.int .i64 k, .string u, .string v] 25)) FD_4.out.lt)
    obtain ⟨d_0, d_1, d_2⟩ := Box.c FD_4.out
    have dlt := FD_4.out.lt
    have q1 := neq_struct (N + M : Nat) S1 R1
    have q2 := eq_struct (N + M : Nat) S1 R1
    go_upto_region 9 with (fail)
    clear q1 q2 c0 c1 c2 d0 d1 d2 c_0 c_1 c_2 d_0 d_1 d_2 clt dlt
    have hbig : (S1.size ≤ 200 ∧ R1.size ≤ 200 ∧ R2.size ≤ 200) := by
      obtain ⟨b1, b2, b3⟩ := HVV.out
      have m4 : (N + M) * (N + M) ≤ 8 * 8 := Nat.mul_le_mul (by omega) (by omega)
      have := HZ.out
      rw [HS1.out, HR1.out, HR2.out, bR_size, bR_size, ByteArray.size_append]
      omega
    by_cases h3 : validB k u v = true ∧ (N : Int) + M + k ≤ 8
    · obtain ⟨K, rfl, -⟩ := valid_size h3.1
      have h38 : N + M + K ≤ 8 := by have := h3.2; omega
      obtain ⟨en, es, er, fn, fs, fr, d1, d2, d3⟩ := three (F := 34) sc_ord HVV.out.1 HVV.out.2.1 h3.1 h38
      obtain ⟨in_, is_, ir, jn, js, jr, e1, e2, e3⟩ := three (F := 36) sc_dis HVV.out.1 HVV.out.2.1 h3.1 h38
      rw [← HS1.out, ← HR1.out] at d1
      rw [← HS1.out, ← HR2.out] at e1
      have D1 := Lib.hid d1
      have D2 := Lib.hid d2
      have D3 := Lib.hid d3
      have E1 := Lib.hid e1
      have E2 := Lib.hid e2
      have E3 := Lib.hid e3
      clear d1 d2 d3 e1 e2 e3 h3 HVV HZ HS1 HR1 HR2 hbig hkw hu hv h38
      clear HC1 HC2
      obtain ⟨a0, a1, a2⟩ := Box.c (FC_4.out.below (((Below.refl w_4.heap.size w_4).alloc (by simp) (.cells #[.int .i64 k2, .string u2, .string v2] 25)).alloc (by simp) (.cells #[.int .i64 K, .string u, .string v] 25)) FC_4.out.lt)
      obtain ⟨a_0, a_1, a_2⟩ := Box.c FC_4.out
      have alt := FC_4.out.lt
      obtain ⟨b0, b1, b2⟩ := Box.c FG_4.out
      go_wp2_with fail
      clear a0 a1 a2 a_0 a_1 a_2 alt b0 b1 b2
      refine ((D1).out _).mono ?_
      rintro e w_5 ⟨rfl, hb⟩
      have hbn : Below w_4.heap.size w_4 w_5 := (((Below.refl w_4.heap.size w_4).alloc (by simp) (.cells #[.int .i64 k2, .string u2, .string v2] 25)).alloc (by simp) (.cells #[.int .i64 K, .string u, .string v] 25)).trans (hb.mono (by simp <;> omega))
      have FA_5 := Lib.hid (FA_4.out.below hbn FA_4.out.lt)
      have FB_5 := Lib.hid (FB_4.out.below hbn FB_4.out.lt)
      have FC_5 := Lib.hid (FC_4.out.below hbn FC_4.out.lt)
      have FD_5 := Lib.hid (FD_4.out.below hbn FD_4.out.lt)
      have FE_5 := Lib.hid (FE_4.out.below hb (by simp <;> omega))
      have FG_5 := Lib.hid (FG_4.out.below hb (by simp <;> omega))
      have AW_5 : Hid (Below w.heap.size w w_5) := AW_4.out.trans (hbn.mono AW_4.out.size)
      clear hbn AW_4 FA_4 FB_4 FC_4 FD_4 FE_4 FG_4
      clear hb
      have Fd_5 : Hid (Box 25 (w_5.alloc (.cells #[.int .i64 fn, .string fs, .string fr] 25)) (w_5.heap.size) fn fs fr) := Box.new _ w_5 (w_5.heap.size) (by simp) _ _ _
      obtain ⟨a0, a1, a2⟩ := Box.c (FB_5.out.below ((Below.refl w_5.heap.size w_5).alloc (by simp) (.cells #[.int .i64 fn, .string fs, .string fr] 25)) FB_5.out.lt)
      obtain ⟨a_0, a_1, a_2⟩ := Box.c FB_5.out
      have alt := FB_5.out.lt
      obtain ⟨b0, b1, b2⟩ := Box.c (FG_5.out.below ((Below.refl w_5.heap.size w_5).alloc (by simp) (.cells #[.int .i64 fn, .string fs, .string fr] 25)) FG_5.out.lt)
      obtain ⟨b_0, b_1, b_2⟩ := Box.c FG_5.out
      have blt := FG_5.out.lt
      go_wp2_with fail
      clear a0 a1 a2 a_0 a_1 a_2 alt b0 b1 b2 b_0 b_1 b_2 blt
      refine ((D2).out _).mono ?_
      rintro e w_6 ⟨rfl, hb⟩
      have hbn : Below w_5.heap.size w_5 w_6 := ((Below.refl w_5.heap.size w_5).alloc (by simp) (.cells #[.int .i64 fn, .string fs, .string fr] 25)).trans (hb.mono (by simp))
      have FA_6 := Lib.hid (FA_5.out.below hbn FA_5.out.lt)
      have FB_6 := Lib.hid (FB_5.out.below hbn FB_5.out.lt)
      have FC_6 := Lib.hid (FC_5.out.below hbn FC_5.out.lt)
      have FD_6 := Lib.hid (FD_5.out.below hbn FD_5.out.lt)
      have FE_6 := Lib.hid (FE_5.out.below hbn FE_5.out.lt)
      have FG_6 := Lib.hid (FG_5.out.below hbn FG_5.out.lt)
      have Fd_6 := Lib.hid (Fd_5.out.below hb (by simp))
      have AW_6 : Hid (Below w.heap.size w w_6) := AW_5.out.trans (hbn.mono AW_5.out.size)
      clear hbn AW_5 FA_5 FB_5 FC_5 FD_5 FE_5 FG_5 Fd_5
      clear hb
      have Fe_6 : Hid (Box 25 (w_6.alloc (.cells #[.int .i64 en, .string es, .string er] 25)) (w_6.heap.size) en es er) := Box.new _ w_6 (w_6.heap.size) (by simp) _ _ _
      obtain ⟨a0, a1, a2⟩ := Box.c (FA_6.out.below ((Below.refl w_6.heap.size w_6).alloc (by simp) (.cells #[.int .i64 en, .string es, .string er] 25)) FA_6.out.lt)
      obtain ⟨a_0, a_1, a_2⟩ := Box.c FA_6.out
      have alt := FA_6.out.lt
      obtain ⟨b0, b1, b2⟩ := Box.c Fe_6.out
      go_wp2_with fail
      clear a0 a1 a2 a_0 a_1 a_2 alt b0 b1 b2
      refine ((D3).out _).mono ?_
      rintro e w_7 ⟨rfl, hb⟩
      have hbn : Below w_6.heap.size w_6 w_7 := ((Below.refl w_6.heap.size w_6).alloc (by simp) (.cells #[.int .i64 en, .string es, .string er] 25)).trans (hb.mono (by simp))
      have FA_7 := Lib.hid (FA_6.out.below hbn FA_6.out.lt)
      have FB_7 := Lib.hid (FB_6.out.below hbn FB_6.out.lt)
      have FC_7 := Lib.hid (FC_6.out.below hbn FC_6.out.lt)
      have FD_7 := Lib.hid (FD_6.out.below hbn FD_6.out.lt)
      have FE_7 := Lib.hid (FE_6.out.below hbn FE_6.out.lt)
      have FG_7 := Lib.hid (FG_6.out.below hbn FG_6.out.lt)
      have Fd_7 := Lib.hid (Fd_6.out.below hbn Fd_6.out.lt)
      have Fe_7 := Lib.hid (Fe_6.out.below hb (by simp))
      have AW_7 : Hid (Below w.heap.size w w_7) := AW_6.out.trans (hbn.mono AW_6.out.size)
      clear hbn AW_6 FA_6 FB_6 FC_6 FD_6 FE_6 FG_6 Fd_6 Fe_6
      clear hb
      have Ff_7 : Hid (Box 25 (w_7.alloc (.cells #[.int .i64 fn, .string fs, .string fr] 25)) (w_7.heap.size) fn fs fr) := Box.new _ w_7 (w_7.heap.size) (by simp) _ _ _
      obtain ⟨a0, a1, a2⟩ := Box.c (FA_7.out.below ((Below.refl w_7.heap.size w_7).alloc (by simp) (.cells #[.int .i64 fn, .string fs, .string fr] 25)) FA_7.out.lt)
      obtain ⟨a_0, a_1, a_2⟩ := Box.c FA_7.out
      have alt := FA_7.out.lt
      obtain ⟨b0, b1, b2⟩ := Box.c (FB_7.out.below ((Below.refl w_7.heap.size w_7).alloc (by simp) (.cells #[.int .i64 fn, .string fs, .string fr] 25)) FB_7.out.lt)
      obtain ⟨b_0, b_1, b_2⟩ := Box.c FB_7.out
      have blt := FB_7.out.lt
      go_wp2_with fail
      clear a0 a1 a2 a_0 a_1 a_2 alt b0 b1 b2 b_0 b_1 b_2 blt
      refine ((HC3).out _).mono ?_
      rintro e w_8 ⟨rfl, hb⟩
      have hbn : Below w_7.heap.size w_7 w_8 := ((Below.refl w_7.heap.size w_7).alloc (by simp) (.cells #[.int .i64 fn, .string fs, .string fr] 25)).trans (hb.mono (by simp))
      have FA_8 := Lib.hid (FA_7.out.below hbn FA_7.out.lt)
      have FB_8 := Lib.hid (FB_7.out.below hbn FB_7.out.lt)
      have FC_8 := Lib.hid (FC_7.out.below hbn FC_7.out.lt)
      have FD_8 := Lib.hid (FD_7.out.below hbn FD_7.out.lt)
      have FE_8 := Lib.hid (FE_7.out.below hbn FE_7.out.lt)
      have FG_8 := Lib.hid (FG_7.out.below hbn FG_7.out.lt)
      have Fd_8 := Lib.hid (Fd_7.out.below hbn Fd_7.out.lt)
      have Fe_8 := Lib.hid (Fe_7.out.below hbn Fe_7.out.lt)
      have Ff_8 := Lib.hid (Ff_7.out.below hb (by simp))
      have AW_8 : Hid (Below w.heap.size w w_8) := AW_7.out.trans (hbn.mono AW_7.out.size)
      clear hbn AW_7 FA_7 FB_7 FC_7 FD_7 FE_7 FG_7 Fd_7 Fe_7 Ff_7
      clear hb
      have Fg_8 : Hid (Box 25 (w_8.alloc (.cells #[.int .i64 (N + M : Nat), .string S1, .string R2] 25)) (w_8.heap.size) (N + M : Nat) S1 R2) := Box.new _ w_8 (w_8.heap.size) (by simp) _ _ _
      obtain ⟨a0, a1, a2⟩ := Box.c Fg_8.out
      obtain ⟨b0, b1, b2⟩ := Box.c (FG_8.out.below ((Below.refl w_8.heap.size w_8).alloc (by simp) (.cells #[.int .i64 (N + M : Nat), .string S1, .string R2] 25)) FG_8.out.lt)
      obtain ⟨b_0, b_1, b_2⟩ := Box.c FG_8.out
      have blt := FG_8.out.lt
      go_wp2_with fail
      clear a0 a1 a2 b0 b1 b2 b_0 b_1 b_2 blt
      refine ((E1).out _).mono ?_
      rintro e w_9 ⟨rfl, hb⟩
      have hbn : Below w_8.heap.size w_8 w_9 := ((Below.refl w_8.heap.size w_8).alloc (by simp) (.cells #[.int .i64 (N + M : Nat), .string S1, .string R2] 25)).trans (hb.mono (by simp))
      have FA_9 := Lib.hid (FA_8.out.below hbn FA_8.out.lt)
      have FB_9 := Lib.hid (FB_8.out.below hbn FB_8.out.lt)
      have FC_9 := Lib.hid (FC_8.out.below hbn FC_8.out.lt)
      have FD_9 := Lib.hid (FD_8.out.below hbn FD_8.out.lt)
      have FE_9 := Lib.hid (FE_8.out.below hbn FE_8.out.lt)
      have FG_9 := Lib.hid (FG_8.out.below hbn FG_8.out.lt)
      have Fd_9 := Lib.hid (Fd_8.out.below hbn Fd_8.out.lt)
      have Fe_9 := Lib.hid (Fe_8.out.below hbn Fe_8.out.lt)
      have Ff_9 := Lib.hid (Ff_8.out.below hbn Ff_8.out.lt)
      have Fg_9 := Lib.hid (Fg_8.out.below hb (by simp))
      have AW_9 : Hid (Below w.heap.size w w_9) := AW_8.out.trans (hbn.mono AW_8.out.size)
      clear hbn AW_8 FA_8 FB_8 FC_8 FD_8 FE_8 FG_8 Fd_8 Fe_8 Ff_8 Fg_8
      clear hb
      have Fh_9 : Hid (Box 25 (w_9.alloc (.cells #[.int .i64 jn, .string js, .string jr] 25)) (w_9.heap.size) jn js jr) := Box.new _ w_9 (w_9.heap.size) (by simp) _ _ _
      obtain ⟨a0, a1, a2⟩ := Box.c (FB_9.out.below ((Below.refl w_9.heap.size w_9).alloc (by simp) (.cells #[.int .i64 jn, .string js, .string jr] 25)) FB_9.out.lt)
      obtain ⟨a_0, a_1, a_2⟩ := Box.c FB_9.out
      have alt := FB_9.out.lt
      obtain ⟨b0, b1, b2⟩ := Box.c (FG_9.out.below ((Below.refl w_9.heap.size w_9).alloc (by simp) (.cells #[.int .i64 jn, .string js, .string jr] 25)) FG_9.out.lt)
      obtain ⟨b_0, b_1, b_2⟩ := Box.c FG_9.out
      have blt := FG_9.out.lt
      go_wp2_with fail
      clear a0 a1 a2 a_0 a_1 a_2 alt b0 b1 b2 b_0 b_1 b_2 blt
      refine ((E2).out _).mono ?_
      rintro e w_10 ⟨rfl, hb⟩
      have hbn : Below w_9.heap.size w_9 w_10 := ((Below.refl w_9.heap.size w_9).alloc (by simp) (.cells #[.int .i64 jn, .string js, .string jr] 25)).trans (hb.mono (by simp))
      have FA_10 := Lib.hid (FA_9.out.below hbn FA_9.out.lt)
      have FB_10 := Lib.hid (FB_9.out.below hbn FB_9.out.lt)
      have FC_10 := Lib.hid (FC_9.out.below hbn FC_9.out.lt)
      have FD_10 := Lib.hid (FD_9.out.below hbn FD_9.out.lt)
      have FE_10 := Lib.hid (FE_9.out.below hbn FE_9.out.lt)
      have FG_10 := Lib.hid (FG_9.out.below hbn FG_9.out.lt)
      have Fd_10 := Lib.hid (Fd_9.out.below hbn Fd_9.out.lt)
      have Fe_10 := Lib.hid (Fe_9.out.below hbn Fe_9.out.lt)
      have Ff_10 := Lib.hid (Ff_9.out.below hbn Ff_9.out.lt)
      have Fg_10 := Lib.hid (Fg_9.out.below hbn Fg_9.out.lt)
      have Fh_10 := Lib.hid (Fh_9.out.below hb (by simp))
      have AW_10 : Hid (Below w.heap.size w w_10) := AW_9.out.trans (hbn.mono AW_9.out.size)
      clear hbn AW_9 FA_9 FB_9 FC_9 FD_9 FE_9 FG_9 Fd_9 Fe_9 Ff_9 Fg_9 Fh_9
      clear hb
      have Fi_10 : Hid (Box 25 (w_10.alloc (.cells #[.int .i64 in_, .string is_, .string ir] 25)) (w_10.heap.size) in_ is_ ir) := Box.new _ w_10 (w_10.heap.size) (by simp) _ _ _
      obtain ⟨a0, a1, a2⟩ := Box.c (FA_10.out.below ((Below.refl w_10.heap.size w_10).alloc (by simp) (.cells #[.int .i64 in_, .string is_, .string ir] 25)) FA_10.out.lt)
      obtain ⟨a_0, a_1, a_2⟩ := Box.c FA_10.out
      have alt := FA_10.out.lt
      obtain ⟨b0, b1, b2⟩ := Box.c Fi_10.out
      go_wp2_with fail
      clear a0 a1 a2 a_0 a_1 a_2 alt b0 b1 b2
      refine ((E3).out _).mono ?_
      rintro e w_11 ⟨rfl, hb⟩
      have hbn : Below w_10.heap.size w_10 w_11 := ((Below.refl w_10.heap.size w_10).alloc (by simp) (.cells #[.int .i64 in_, .string is_, .string ir] 25)).trans (hb.mono (by simp))
      have FA_11 := Lib.hid (FA_10.out.below hbn FA_10.out.lt)
      have FB_11 := Lib.hid (FB_10.out.below hbn FB_10.out.lt)
      have FC_11 := Lib.hid (FC_10.out.below hbn FC_10.out.lt)
      have FD_11 := Lib.hid (FD_10.out.below hbn FD_10.out.lt)
      have FE_11 := Lib.hid (FE_10.out.below hbn FE_10.out.lt)
      have FG_11 := Lib.hid (FG_10.out.below hbn FG_10.out.lt)
      have Fd_11 := Lib.hid (Fd_10.out.below hbn Fd_10.out.lt)
      have Fe_11 := Lib.hid (Fe_10.out.below hbn Fe_10.out.lt)
      have Ff_11 := Lib.hid (Ff_10.out.below hbn Ff_10.out.lt)
      have Fg_11 := Lib.hid (Fg_10.out.below hbn Fg_10.out.lt)
      have Fh_11 := Lib.hid (Fh_10.out.below hbn Fh_10.out.lt)
      have Fi_11 := Lib.hid (Fi_10.out.below hb (by simp))
      have AW_11 : Hid (Below w.heap.size w w_11) := AW_10.out.trans (hbn.mono AW_10.out.size)
      clear hbn AW_10 FA_10 FB_10 FC_10 FD_10 FE_10 FG_10 Fd_10 Fe_10 Ff_10 Fg_10 Fh_10 Fi_10
      clear hb
      have Fj_11 : Hid (Box 25 (w_11.alloc (.cells #[.int .i64 jn, .string js, .string jr] 25)) (w_11.heap.size) jn js jr) := Box.new _ w_11 (w_11.heap.size) (by simp) _ _ _
      obtain ⟨a0, a1, a2⟩ := Box.c (Fd_11.out.below ((Below.refl w_11.heap.size w_11).alloc (by simp) (.cells #[.int .i64 jn, .string js, .string jr] 25)) Fd_11.out.lt)
      obtain ⟨a_0, a_1, a_2⟩ := Box.c Fd_11.out
      have alt := Fd_11.out.lt
      obtain ⟨b0, b1, b2⟩ := Box.c (Ff_11.out.below ((Below.refl w_11.heap.size w_11).alloc (by simp) (.cells #[.int .i64 jn, .string js, .string jr] 25)) Ff_11.out.lt)
      obtain ⟨b_0, b_1, b_2⟩ := Box.c Ff_11.out
      have blt := Ff_11.out.lt
      obtain ⟨c0, c1, c2⟩ := Box.c (Fh_11.out.below ((Below.refl w_11.heap.size w_11).alloc (by simp) (.cells #[.int .i64 jn, .string js, .string jr] 25)) Fh_11.out.lt)
      obtain ⟨c_0, c_1, c_2⟩ := Box.c Fh_11.out
      have clt := Fh_11.out.lt
      obtain ⟨d0, d1, d2⟩ := Box.c Fj_11.out
      have q1 := eq_struct fn fs fr
      have q2 := eq_struct jn js jr
      go_wp2
      go_ret
      exact ⟨rfl, AW_11.out.trans (((Below.refl w_11.heap.size w_11).alloc (by simp) (.cells #[.int .i64 jn, .string js, .string jr] 25)).mono AW_11.out.size)⟩
    · obtain ⟨dn, ds, dr, en, es, er, eb, fn, fs, fr, fb, d1, d2, d3⟩ := three_no (F := 34) (R := R1) sc_ord (N := N) (M := M) (k := k) (s := s) (r := r) (t := t) (q := q) (u := u) (v := v) (by have := HZ.out; omega) (by have := HZ.out; omega) (by have := HZ.out; omega) (by have := HZ.out; omega) (by omega) (by omega) (by rw [← HS1.out]; exact hbig.1) hbig.2.1 h3
      obtain ⟨hn, hs, hr, in_, is_, ir, ib, jn, js, jr, jb, e1, e2, e3⟩ := three_no (F := 36) (R := R2) sc_dis (N := N) (M := M) (k := k) (s := s) (r := r) (t := t) (q := q) (u := u) (v := v) (by have := HZ.out; omega) (by have := HZ.out; omega) (by have := HZ.out; omega) (by have := HZ.out; omega) (by omega) (by omega) (by rw [← HS1.out]; exact hbig.1) hbig.2.2 h3
      rw [← HS1.out] at d1 e1
      have D1 := Lib.hid d1
      have D2 := Lib.hid d2
      have D3 := Lib.hid d3
      have E1 := Lib.hid e1
      have E2 := Lib.hid e2
      have E3 := Lib.hid e3
      clear d1 d2 d3 e1 e2 e3 h3 HVV HZ HS1 HR1 HR2 hbig hkw hu hv
      clear HC1 HC2
      obtain ⟨a0, a1, a2⟩ := Box.c (FC_4.out.below (((Below.refl w_4.heap.size w_4).alloc (by simp) (.cells #[.int .i64 k2, .string u2, .string v2] 25)).alloc (by simp) (.cells #[.int .i64 k, .string u, .string v] 25)) FC_4.out.lt)
      obtain ⟨a_0, a_1, a_2⟩ := Box.c FC_4.out
      have alt := FC_4.out.lt
      obtain ⟨b0, b1, b2⟩ := Box.c FG_4.out
      go_wp2_with fail
      clear a0 a1 a2 a_0 a_1 a_2 alt b0 b1 b2
      refine ((D1).out _).mono ?_
      rintro e w_5 ⟨rfl, hb⟩
      have hbn : Below w_4.heap.size w_4 w_5 := (((Below.refl w_4.heap.size w_4).alloc (by simp) (.cells #[.int .i64 k2, .string u2, .string v2] 25)).alloc (by simp) (.cells #[.int .i64 k, .string u, .string v] 25)).trans (hb.mono (by simp <;> omega))
      have FA_5 := Lib.hid (FA_4.out.below hbn FA_4.out.lt)
      have FB_5 := Lib.hid (FB_4.out.below hbn FB_4.out.lt)
      have FC_5 := Lib.hid (FC_4.out.below hbn FC_4.out.lt)
      have FD_5 := Lib.hid (FD_4.out.below hbn FD_4.out.lt)
      have FE_5 := Lib.hid (FE_4.out.below hb (by simp <;> omega))
      have FG_5 := Lib.hid (FG_4.out.below hb (by simp <;> omega))
      have AW_5 : Hid (Below w.heap.size w w_5) := AW_4.out.trans (hbn.mono AW_4.out.size)
      clear hbn AW_4 FA_4 FB_4 FC_4 FD_4 FE_4 FG_4
      clear hb
      have Fd_5 : Hid (Box 25 (w_5.alloc (.cells #[.int .i64 dn, .string ds, .string dr] 25)) (w_5.heap.size) dn ds dr) := Box.new _ w_5 (w_5.heap.size) (by simp) _ _ _
      obtain ⟨a0, a1, a2⟩ := Box.c (FB_5.out.below ((Below.refl w_5.heap.size w_5).alloc (by simp) (.cells #[.int .i64 dn, .string ds, .string dr] 25)) FB_5.out.lt)
      obtain ⟨a_0, a_1, a_2⟩ := Box.c FB_5.out
      have alt := FB_5.out.lt
      obtain ⟨b0, b1, b2⟩ := Box.c (FG_5.out.below ((Below.refl w_5.heap.size w_5).alloc (by simp) (.cells #[.int .i64 dn, .string ds, .string dr] 25)) FG_5.out.lt)
      obtain ⟨b_0, b_1, b_2⟩ := Box.c FG_5.out
      have blt := FG_5.out.lt
      go_wp2_with fail
      clear a0 a1 a2 a_0 a_1 a_2 alt b0 b1 b2 b_0 b_1 b_2 blt
      refine ((D2).out _).mono ?_
      rintro e w_6 ⟨rfl, hb⟩
      have hbn : Below w_5.heap.size w_5 w_6 := ((Below.refl w_5.heap.size w_5).alloc (by simp) (.cells #[.int .i64 dn, .string ds, .string dr] 25)).trans (hb.mono (by simp))
      have FA_6 := Lib.hid (FA_5.out.below hbn FA_5.out.lt)
      have FB_6 := Lib.hid (FB_5.out.below hbn FB_5.out.lt)
      have FC_6 := Lib.hid (FC_5.out.below hbn FC_5.out.lt)
      have FD_6 := Lib.hid (FD_5.out.below hbn FD_5.out.lt)
      have FE_6 := Lib.hid (FE_5.out.below hbn FE_5.out.lt)
      have FG_6 := Lib.hid (FG_5.out.below hbn FG_5.out.lt)
      have Fd_6 := Lib.hid (Fd_5.out.below hb (by simp))
      have AW_6 : Hid (Below w.heap.size w w_6) := AW_5.out.trans (hbn.mono AW_5.out.size)
      clear hbn AW_5 FA_5 FB_5 FC_5 FD_5 FE_5 FG_5 Fd_5
      clear hb
      have Fe_6 : Hid (Box 25 (w_6.alloc (.cells #[.int .i64 en, .string es, .string er] 25)) (w_6.heap.size) en es er) := Box.new _ w_6 (w_6.heap.size) (by simp) _ _ _
      obtain ⟨a0, a1, a2⟩ := Box.c (FA_6.out.below ((Below.refl w_6.heap.size w_6).alloc (by simp) (.cells #[.int .i64 en, .string es, .string er] 25)) FA_6.out.lt)
      obtain ⟨a_0, a_1, a_2⟩ := Box.c FA_6.out
      have alt := FA_6.out.lt
      obtain ⟨b0, b1, b2⟩ := Box.c Fe_6.out
      go_wp2_with fail
      clear a0 a1 a2 a_0 a_1 a_2 alt b0 b1 b2
      refine ((D3).out _).mono ?_
      rintro e w_7 ⟨rfl, hb⟩
      have hbn : Below w_6.heap.size w_6 w_7 := ((Below.refl w_6.heap.size w_6).alloc (by simp) (.cells #[.int .i64 en, .string es, .string er] 25)).trans (hb.mono (by simp))
      have FA_7 := Lib.hid (FA_6.out.below hbn FA_6.out.lt)
      have FB_7 := Lib.hid (FB_6.out.below hbn FB_6.out.lt)
      have FC_7 := Lib.hid (FC_6.out.below hbn FC_6.out.lt)
      have FD_7 := Lib.hid (FD_6.out.below hbn FD_6.out.lt)
      have FE_7 := Lib.hid (FE_6.out.below hbn FE_6.out.lt)
      have FG_7 := Lib.hid (FG_6.out.below hbn FG_6.out.lt)
      have Fd_7 := Lib.hid (Fd_6.out.below hbn Fd_6.out.lt)
      have Fe_7 := Lib.hid (Fe_6.out.below hb (by simp))
      have AW_7 : Hid (Below w.heap.size w w_7) := AW_6.out.trans (hbn.mono AW_6.out.size)
      clear hbn AW_6 FA_6 FB_6 FC_6 FD_6 FE_6 FG_6 Fd_6 Fe_6
      clear hb
      have Ff_7 : Hid (Box 25 (w_7.alloc (.cells #[.int .i64 fn, .string fs, .string fr] 25)) (w_7.heap.size) fn fs fr) := Box.new _ w_7 (w_7.heap.size) (by simp) _ _ _
      obtain ⟨a0, a1, a2⟩ := Box.c (FA_7.out.below ((Below.refl w_7.heap.size w_7).alloc (by simp) (.cells #[.int .i64 fn, .string fs, .string fr] 25)) FA_7.out.lt)
      obtain ⟨a_0, a_1, a_2⟩ := Box.c FA_7.out
      have alt := FA_7.out.lt
      obtain ⟨b0, b1, b2⟩ := Box.c (FB_7.out.below ((Below.refl w_7.heap.size w_7).alloc (by simp) (.cells #[.int .i64 fn, .string fs, .string fr] 25)) FB_7.out.lt)
      obtain ⟨b_0, b_1, b_2⟩ := Box.c FB_7.out
      have blt := FB_7.out.lt
      go_wp2_with fail
      clear a0 a1 a2 a_0 a_1 a_2 alt b0 b1 b2 b_0 b_1 b_2 blt
      refine ((HC3).out _).mono ?_
      rintro e w_8 ⟨rfl, hb⟩
      have hbn : Below w_7.heap.size w_7 w_8 := ((Below.refl w_7.heap.size w_7).alloc (by simp) (.cells #[.int .i64 fn, .string fs, .string fr] 25)).trans (hb.mono (by simp))
      have FA_8 := Lib.hid (FA_7.out.below hbn FA_7.out.lt)
      have FB_8 := Lib.hid (FB_7.out.below hbn FB_7.out.lt)
      have FC_8 := Lib.hid (FC_7.out.below hbn FC_7.out.lt)
      have FD_8 := Lib.hid (FD_7.out.below hbn FD_7.out.lt)
      have FE_8 := Lib.hid (FE_7.out.below hbn FE_7.out.lt)
      have FG_8 := Lib.hid (FG_7.out.below hbn FG_7.out.lt)
      have Fd_8 := Lib.hid (Fd_7.out.below hbn Fd_7.out.lt)
      have Fe_8 := Lib.hid (Fe_7.out.below hbn Fe_7.out.lt)
      have Ff_8 := Lib.hid (Ff_7.out.below hb (by simp))
      have AW_8 : Hid (Below w.heap.size w w_8) := AW_7.out.trans (hbn.mono AW_7.out.size)
      clear hbn AW_7 FA_7 FB_7 FC_7 FD_7 FE_7 FG_7 Fd_7 Fe_7 Ff_7
      clear hb
      have Fg_8 : Hid (Box 25 (w_8.alloc (.cells #[.int .i64 (N + M : Nat), .string S1, .string R2] 25)) (w_8.heap.size) (N + M : Nat) S1 R2) := Box.new _ w_8 (w_8.heap.size) (by simp) _ _ _
      obtain ⟨a0, a1, a2⟩ := Box.c Fg_8.out
      obtain ⟨b0, b1, b2⟩ := Box.c (FG_8.out.below ((Below.refl w_8.heap.size w_8).alloc (by simp) (.cells #[.int .i64 (N + M : Nat), .string S1, .string R2] 25)) FG_8.out.lt)
      obtain ⟨b_0, b_1, b_2⟩ := Box.c FG_8.out
      have blt := FG_8.out.lt
      go_wp2_with fail
      clear a0 a1 a2 b0 b1 b2 b_0 b_1 b_2 blt
      refine ((E1).out _).mono ?_
      rintro e w_9 ⟨rfl, hb⟩
      have hbn : Below w_8.heap.size w_8 w_9 := ((Below.refl w_8.heap.size w_8).alloc (by simp) (.cells #[.int .i64 (N + M : Nat), .string S1, .string R2] 25)).trans (hb.mono (by simp))
      have FA_9 := Lib.hid (FA_8.out.below hbn FA_8.out.lt)
      have FB_9 := Lib.hid (FB_8.out.below hbn FB_8.out.lt)
      have FC_9 := Lib.hid (FC_8.out.below hbn FC_8.out.lt)
      have FD_9 := Lib.hid (FD_8.out.below hbn FD_8.out.lt)
      have FE_9 := Lib.hid (FE_8.out.below hbn FE_8.out.lt)
      have FG_9 := Lib.hid (FG_8.out.below hbn FG_8.out.lt)
      have Fd_9 := Lib.hid (Fd_8.out.below hbn Fd_8.out.lt)
      have Fe_9 := Lib.hid (Fe_8.out.below hbn Fe_8.out.lt)
      have Ff_9 := Lib.hid (Ff_8.out.below hbn Ff_8.out.lt)
      have Fg_9 := Lib.hid (Fg_8.out.below hb (by simp))
      have AW_9 : Hid (Below w.heap.size w w_9) := AW_8.out.trans (hbn.mono AW_8.out.size)
      clear hbn AW_8 FA_8 FB_8 FC_8 FD_8 FE_8 FG_8 Fd_8 Fe_8 Ff_8 Fg_8
      clear hb
      have Fh_9 : Hid (Box 25 (w_9.alloc (.cells #[.int .i64 hn, .string hs, .string hr] 25)) (w_9.heap.size) hn hs hr) := Box.new _ w_9 (w_9.heap.size) (by simp) _ _ _
      obtain ⟨a0, a1, a2⟩ := Box.c (FB_9.out.below ((Below.refl w_9.heap.size w_9).alloc (by simp) (.cells #[.int .i64 hn, .string hs, .string hr] 25)) FB_9.out.lt)
      obtain ⟨a_0, a_1, a_2⟩ := Box.c FB_9.out
      have alt := FB_9.out.lt
      obtain ⟨b0, b1, b2⟩ := Box.c (FG_9.out.below ((Below.refl w_9.heap.size w_9).alloc (by simp) (.cells #[.int .i64 hn, .string hs, .string hr] 25)) FG_9.out.lt)
      obtain ⟨b_0, b_1, b_2⟩ := Box.c FG_9.out
      have blt := FG_9.out.lt
      go_wp2_with fail
      clear a0 a1 a2 a_0 a_1 a_2 alt b0 b1 b2 b_0 b_1 b_2 blt
      refine ((E2).out _).mono ?_
      rintro e w_10 ⟨rfl, hb⟩
      have hbn : Below w_9.heap.size w_9 w_10 := ((Below.refl w_9.heap.size w_9).alloc (by simp) (.cells #[.int .i64 hn, .string hs, .string hr] 25)).trans (hb.mono (by simp))
      have FA_10 := Lib.hid (FA_9.out.below hbn FA_9.out.lt)
      have FB_10 := Lib.hid (FB_9.out.below hbn FB_9.out.lt)
      have FC_10 := Lib.hid (FC_9.out.below hbn FC_9.out.lt)
      have FD_10 := Lib.hid (FD_9.out.below hbn FD_9.out.lt)
      have FE_10 := Lib.hid (FE_9.out.below hbn FE_9.out.lt)
      have FG_10 := Lib.hid (FG_9.out.below hbn FG_9.out.lt)
      have Fd_10 := Lib.hid (Fd_9.out.below hbn Fd_9.out.lt)
      have Fe_10 := Lib.hid (Fe_9.out.below hbn Fe_9.out.lt)
      have Ff_10 := Lib.hid (Ff_9.out.below hbn Ff_9.out.lt)
      have Fg_10 := Lib.hid (Fg_9.out.below hbn Fg_9.out.lt)
      have Fh_10 := Lib.hid (Fh_9.out.below hb (by simp))
      have AW_10 : Hid (Below w.heap.size w w_10) := AW_9.out.trans (hbn.mono AW_9.out.size)
      clear hbn AW_9 FA_9 FB_9 FC_9 FD_9 FE_9 FG_9 Fd_9 Fe_9 Ff_9 Fg_9 Fh_9
      clear hb
      have Fi_10 : Hid (Box 25 (w_10.alloc (.cells #[.int .i64 in_, .string is_, .string ir] 25)) (w_10.heap.size) in_ is_ ir) := Box.new _ w_10 (w_10.heap.size) (by simp) _ _ _
      obtain ⟨a0, a1, a2⟩ := Box.c (FA_10.out.below ((Below.refl w_10.heap.size w_10).alloc (by simp) (.cells #[.int .i64 in_, .string is_, .string ir] 25)) FA_10.out.lt)
      obtain ⟨a_0, a_1, a_2⟩ := Box.c FA_10.out
      have alt := FA_10.out.lt
      obtain ⟨b0, b1, b2⟩ := Box.c Fi_10.out
      go_wp2_with fail
      clear a0 a1 a2 a_0 a_1 a_2 alt b0 b1 b2
      refine ((E3).out _).mono ?_
      rintro e w_11 ⟨rfl, hb⟩
      have hbn : Below w_10.heap.size w_10 w_11 := ((Below.refl w_10.heap.size w_10).alloc (by simp) (.cells #[.int .i64 in_, .string is_, .string ir] 25)).trans (hb.mono (by simp))
      have FA_11 := Lib.hid (FA_10.out.below hbn FA_10.out.lt)
      have FB_11 := Lib.hid (FB_10.out.below hbn FB_10.out.lt)
      have FC_11 := Lib.hid (FC_10.out.below hbn FC_10.out.lt)
      have FD_11 := Lib.hid (FD_10.out.below hbn FD_10.out.lt)
      have FE_11 := Lib.hid (FE_10.out.below hbn FE_10.out.lt)
      have FG_11 := Lib.hid (FG_10.out.below hbn FG_10.out.lt)
      have Fd_11 := Lib.hid (Fd_10.out.below hbn Fd_10.out.lt)
      have Fe_11 := Lib.hid (Fe_10.out.below hbn Fe_10.out.lt)
      have Ff_11 := Lib.hid (Ff_10.out.below hbn Ff_10.out.lt)
      have Fg_11 := Lib.hid (Fg_10.out.below hbn Fg_10.out.lt)
      have Fh_11 := Lib.hid (Fh_10.out.below hbn Fh_10.out.lt)
      have Fi_11 := Lib.hid (Fi_10.out.below hb (by simp))
      have AW_11 : Hid (Below w.heap.size w w_11) := AW_10.out.trans (hbn.mono AW_10.out.size)
      clear hbn AW_10 FA_10 FB_10 FC_10 FD_10 FE_10 FG_10 Fd_10 Fe_10 Ff_10 Fg_10 Fh_10 Fi_10
      clear hb
      have Fj_11 : Hid (Box 25 (w_11.alloc (.cells #[.int .i64 jn, .string js, .string jr] 25)) (w_11.heap.size) jn js jr) := Box.new _ w_11 (w_11.heap.size) (by simp) _ _ _
      go_wp2
      go_ret
      exact ⟨rfl, AW_11.out.trans (((Below.refl w_11.heap.size w_11).alloc (by simp) (.cells #[.int .i64 jn, .string js, .string jr] 25)).mono AW_11.out.size)⟩

end Go.Proofs.YtlnmebjbinmeiaaDoor.fnAssocW
