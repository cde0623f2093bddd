/- FnDisjointSum: the walk. -/
import Derived.Test.YtefneihlgclkbaaDoorDrawG
import Derived.Test.YtefneihlgclkbaaDoorDsum
import Derived.Test.YtefneihlgclkbaaDoorInRel
import Derived.Test.YtefneihlgclkbaaDoorRow
namespace Go.Proofs.YtefneihlgclkbaaDoor.fnDsumW
set_option linter.unusedVariables false
set_option linter.unusedSimpArgs false
open Go.ChangeShapes Go.WideShapes Go.ChangeAt Go.RowKit
open Go.Proofs.YtefneihlgclkbaaDoor.flow Go.Proofs.YtefneihlgclkbaaDoor.lib Go.Proofs.YtefneihlgclkbaaDoor.st Go.Proofs.YtefneihlgclkbaaDoor.draw Go.Proofs.YtefneihlgclkbaaDoor.base Go.Proofs.YtefneihlgclkbaaDoor.make Go.Proofs.YtefneihlgclkbaaDoor.prod Go.Proofs.YtefneihlgclkbaaDoor.sum Go.Proofs.YtefneihlgclkbaaDoor.val Go.Proofs.YtefneihlgclkbaaDoor.assoc Go.Proofs.YtefneihlgclkbaaDoor.sumc Go.Proofs.YtefneihlgclkbaaDoor.dsum Go.Proofs.YtefneihlgclkbaaDoor.fits Go.Proofs.YtefneihlgclkbaaDoor.part
/-- bytes that came in may be drawn from -/
theorem byt_of_row {w : World} {a : Option Addr} {n c : Nat} {zs : List Int} (h : row.IsRow .u8 w a n c zs) : Byt w w.heap.size a n ∧ n ≤ c ∧ c ≤ 9223372036854775807 := by
  rcases h with ⟨rfl, rfl, rfl, rfl⟩ | ⟨x, rfl, hl, hm, hz, hcell, hwf⟩
  · exact ⟨.inl rfl, Nat.le_refl _, by omega⟩
  · refine ⟨?_, hl, hm⟩
    by_cases h0 : n = 0
    · exact .inl h0
    · obtain ⟨b, off, spot⟩ := x
      have hc := hcell 0 (by omega)
      have hspot : spot = none := by simpa [Addr.add] using World.cell?_spot hc
      subst hspot
      have hlt := World.block_lt_of_cell? w _ hc
      refine .inr ⟨b, off, rfl, by simpa [Addr.add] using hlt, fun i hi => ?_⟩
      have hci := hcell i (by omega)
      have hw := hwf (zs.getD i 0) (by rw [List.getD_eq_getElem?_getD, List.getElem?_eq_getElem (by omega)]; exact List.getElem_mem _)
      have hb : 0 ≤ zs.getD i 0 ∧ zs.getD i 0 ≤ 255 := by
        generalize zs.getD i 0 = z at hw ⊢
        simp only [Lit.wf, IntKind.min, IntKind.max, IntKind.signed, IntKind.bits, Bool.and_eq_true, decide_eq_true_eq] at hw
        simp at hw
        omega
      refine ⟨(zs.getD i 0).toNat, by omega, ?_⟩
      rw [show (⟨b, off, none⟩ : Addr).add i = ⟨b, off + i, none⟩ from by simp only [Addr.add]; split <;> simp [*]] at hci
      rw [hci, show (((zs.getD i 0).toNat : Nat) : Int) = zs.getD i 0 from by omega]

theorem neq_struct (n : Int) (s r : ByteArray) (w : World) : (binOp .neq 24 (.agg #[.int .i64 n, .string s, .string r]) (.agg #[.int .i64 n, .string s, .string r])).run Tryd.prog w = .ok (.bool false) w := by
  have u3 := Tryd.underlying3
  have a3 := Tryd.isAgg3
  have z3 := Tryd.sizeOf3
  have u4 := Tryd.underlying9
  have a4 := Tryd.isAgg9
  have z4 := Tryd.sizeOf9
  have hS : Tryd.prog.underlying 24 = some (.struct (Tryd.prog.fieldsOf 24)) := by kernel_rfl
  have hp : Tryd.prog.stoodInHeld 24 = false := by kernel_rfl
  rw [run_neq_struct, show (10000 : Nat) = 9999 + 1 from rfl, run_equalIn_agg w 9999 24 _ _ hS hp]
  simp only [Program.fieldsOf, Tryd.underlying24]
  go_simp
theorem sc_ords {n : Int} {s r : ByteArray} {m : Int} {t q : ByteArray} (hn : (Lit.int .i64 n).wf = true) (hm : (Lit.int .i64 m).wf = true) (hs : s.size ≤ 100) (hr : r.size ≤ 100) (ht : t.size ≤ 100) (hq : q.size ≤ 100) : SC 21 n s r m t q (sn n s r m t q) (ss n s r m t q) (sr true n s r m t q) (okS n s r m t q) :=
  fun W => specOrderedSum_any n s r m t q W hn hm (by omega) (by omega) (by omega) (by omega)
theorem sc_diss {n : Int} {s r : ByteArray} {m : Int} {t q : ByteArray} (hn : (Lit.int .i64 n).wf = true) (hm : (Lit.int .i64 m).wf = true) (hs : s.size ≤ 100) (hr : r.size ≤ 100) (ht : t.size ≤ 100) (hq : q.size ≤ 100) : SC 19 n s r m t q (sn n s r m t q) (ss n s r m t q) (sr false n s r m t q) (okS n s r m t q) :=
  fun W => specDisjointSum_any n s r m t q W hn hm (by omega) (by omega) (by omega) (by omega)
/-- the sums -/
theorem both {n : Int} {s r : ByteArray} {m : Int} {t q : ByteArray} (hn : (Lit.int .i64 n).wf = true) (hm : (Lit.int .i64 m).wf = true) (hs : s.size ≤ 100) (hr : r.size ≤ 100) (ht : t.size ≤ 100) (hq : q.size ≤ 100) :
    (∃ (x : Int) (y z z2 : ByteArray), SC 18 n s r m t q x y z false ∧ SC 19 n s r m t q x y z false ∧ SC 20 n s r m t q x y z2 false ∧ SC 21 n s r m t q x y z2 false) ∨
    (∃ (N M K : Nat) (S1 R1 R2 S3 R3 : ByteArray), n = N ∧ m = M ∧ dsum.Fact N M K s r t q S1 R1 R2 S3 R3 ∧ SC 18 n s r m t q K S1 R1 true ∧ SC 19 n s r m t q K S1 R1 true ∧ SC 20 n s r m t q K S1 R2 true ∧ SC 21 n s r m t q K S1 R2 true ∧ SC 18 m t q n s r K S3 R3 true) := by
  have c1 := sc_dis (n := n) (s := s) (r := r) (m := m) (t := t) (q := q) (by omega) (by omega) (by omega) (by omega)
  have c3 := sc_ord (n := n) (s := s) (r := r) (m := m) (t := t) (q := q) (by omega) (by omega) (by omega) (by omega)
  have c5 := sc_dis (n := m) (s := t) (r := q) (m := n) (t := s) (q := r) (by omega) (by omega) (by omega) (by omega)
  have c2 := sc_diss hn hm hs hr ht hq
  have c4 := sc_ords hn hm hs hr ht hq
  cases hk : okS n s r m t q with
  | false =>
    rw [hk] at c1 c2 c3 c4
    exact .inl ⟨_, _, _, _, c1, c2, c3, c4⟩
  | true =>
    obtain ⟨hv1, hv2, h8⟩ : validB n s r = true ∧ validB m t q = true ∧ n + m ≤ 8 := by simpa [okS] using hk
    have hk2 : okS m t q n s r = true := by simp [okS, hv1, hv2]; omega
    obtain ⟨N, rfl, hN1, hN8, hsN, hrN⟩ := valid_size hv1
    obtain ⟨M, rfl, hM1, hM8, hsM, hrM⟩ := valid_size hv2
    have hf := dsum.fact hv1 hv2 (by omega)
    obtain ⟨x1, x2, x3⟩ := s_yes (K := N + M) false rfl hk
    obtain ⟨z1, z2, z3⟩ := s_yes (K := N + M) true rfl hk
    obtain ⟨y1, y2, y3⟩ := s_yes (K := N + M) false (by omega) hk2
    rw [x1, x2, x3, hk] at c1 c2
    rw [z1, z2, z3, hk] at c3 c4
    rw [y1, y2, y3, hk2] at c5
    have er : bR (sumRel false M q N r) (N + M) (N + M) = ro false M q N r := by rw [ro, Nat.add_comm M N]
    rw [er] at c5
    exact .inr ⟨N, M, N + M, _, _, _, _, _, rfl, rfl, hf, c1, c2, c3, c4, c5⟩
/-- a part by its first element and its length -/
theorem part_at {K C k : Nat} {S R s r : ByteArray} (hv : validB K S R = true) (hK : K ≤ 8) (hs : S.size = K) (hr : R.size = K * K) (h1 : 1 ≤ k) (hk : C + k ≤ K) (es : bS (pS S (from' C k)) k = s) (er : bR (pR K R (from' C k)) k k = r) (ao : Option Addr) (cap : Nat) (w : World) (h : Reads w (.slice ao k cap) (ints (from' C k))) (hc : k ≤ cap ∧ cap ≤ maxLen) :
    Calls Tryd.prog 22 #[.agg #[.int .i64 K, .string S, .string R], .slice ao k cap] w fun e w' => e = .returned (.tuple #[.agg #[.int .i64 k, .string s, .string r], .bool true]) ∧ Below w.heap.size w w' := by
  have hl := from_len C k
  have := partof.partOf_yes K S R ao cap (from' C k) w hv hK hs hr (by rw [hl]; exact h) (by rw [hl]; exact ⟨hc.1, by have := hc.2; unfold maxLen at this; omega⟩) (fun y hy => from_lt hk hy) (from_nodup C k) (by omega) (by omega)
  rw [hl, es, er] at this
  exact this
theorem own_cap {T : TypeId} {w : World} {B n cap : Nat} {ao : Option Addr} {l : List Int} (h : OwnI T w B (.slice ao n cap) l) (h1 : 1 ≤ n) : n ≤ cap ∧ cap ≤ maxLen := by
  rcases h.2 with ⟨h', _⟩ | ⟨g, c, cur, hv, _, _, h2, h3, _⟩
  · simp only [Value.slice.injEq] at h'; omega
  · simp only [Value.slice.injEq] at hv
    obtain ⟨-, e1, e2⟩ := hv
    rw [e1, e2]; exact ⟨h2, h3⟩
/-- those of the first X that lie in the first structure, and in the second one -/
def lo (N X : Nat) : List Int := ints (from' 0 (min X N))
def hi (N X : Nat) : List Int := ints (from' N (X - N))
theorem lo_yes {N X : Nat} (h : X < N) : lo N (X + 1) = lo N X ++ [(X : Int)] ∧ hi N (X + 1) = hi N X := by
  unfold lo hi
  rw [show min (X + 1) N = X + 1 by omega, show min X N = X by omega, from_succ, ints_app, show X + 1 - N = 0 by omega, show X - N = 0 by omega, Nat.zero_add]
  exact ⟨rfl, rfl⟩
theorem hi_yes {N X : Nat} (h : N ≤ X) : hi N (X + 1) = hi N X ++ [(X : Int)] ∧ lo N (X + 1) = lo N X := by
  unfold lo hi
  rw [show min (X + 1) N = N by omega, show min X N = N by omega, show X + 1 - N = (X - N) + 1 by omega, from_succ, ints_app, show N + (X - N) = X by omega]
  exact ⟨rfl, rfl⟩
theorem lo_len (N X : Nat) : (lo N X).length = min X N ∧ (hi N X).length = X - N := by
  unfold lo hi
  rw [ints_len, ints_len, from_len, from_len]; exact ⟨rfl, rfl⟩
theorem two_below {T : TypeId} {w w' : World} {B C : Nat} {v1 v2 : Value} {l1 l2 : List Int} (h : Two T w B v1 v2 l1 l2) (hb : Below C w w') (hC : w.heap.size ≤ C) : Two T w' B v1 v2 l1 l2 := ⟨h.1.below hb hC, h.2.1.below hb hC, h.2.2⟩
theorem sq8 {N M K : Nat} (h : N + M ≤ 8) (hk : K = N + M) : K * K ≤ 64 := by
  subst hk
  exact Nat.mul_le_mul h h

set_option maxHeartbeats 40000000 in
set_option maxRecDepth 100000 in
theorem walk (a0 : Option Addr) (n0 c0 : Nat) (l0 : List Int) (w : World) (h0 : row.IsRow .u8 w a0 n0 c0 l0) :
    Calls Tryd.prog 4 #[.slice a0 n0 c0] w fun e w' => e = .returned (.bool true) ∧ Below w.heap.size w w' := by
  obtain ⟨by0, nc0, cm0⟩ := byt_of_row h0
  have BY0 := Lib.hid by0
  clear by0 h0
  by_cases hg0 : 1048576 < n0
  · go_enter Tryd.func4, Tryd.ntmps4
    go_wp2
    go_ret
    exact ⟨rfl, Below.refl _ _⟩
  go_enter Tryd.func4, Tryd.ntmps4
  have AW_0 : Hid (Below w.heap.size w w) := Below.refl _ _
  go_wp2_with fail
  refine (drawDisjointSum_any a0 n0 c0 _ BY0.out nc0 cm0).mono ?_
  rintro e w_1 ⟨n, s, r, m, t, q, rfl, hnw, hs, hr, hmw, ht, hq, hb⟩
  have hbn := hb
  have AW_1 : Hid (Below w.heap.size w w_1) := AW_0.out.trans (hbn.mono AW_0.out.size)
  clear hbn AW_0 
  have FA_1 : Hid (Box 24 (w_1.alloc (.cells #[.int .i64 n, .string s, .string r] 24)) (w_1.heap.size) n s r) := Box.new _ w_1 (w_1.heap.size) (by simp) _ _ _
  have FA_1 := Lib.hid (FA_1.out.below ((Below.refl (w_1.heap.size + 1) _).alloc (by simp) (.cells #[.int .i64 m, .string t, .string q] 24)) (by omega))
  have FB_1 : Hid (Box 24 ((w_1.alloc (.cells #[.int .i64 n, .string s, .string r] 24)).alloc (.cells #[.int .i64 m, .string t, .string q] 24)) (w_1.heap.size + 1) m t q) := Box.new _ (w_1.alloc (.cells #[.int .i64 n, .string s, .string r] 24)) (w_1.heap.size + 1) (by simp) _ _ _
  clear hb
  obtain ⟨x, y, z, z2, hc1, hc2, hc3, hc4⟩ | ⟨N, M, K, S1, R1, R2, S3, R3, rfl, rfl, hf, hc1, hc2, hc3, hc4, hc5⟩ := both hnw hmw hs hr ht hq
  · have HC1 := Lib.hid hc1
    have HC2 := Lib.hid hc2
    have HC3 := Lib.hid hc3
    have HC4 := Lib.hid hc4
    clear hc1 hc2 hc3 hc4
    obtain ⟨a0, a1, a2⟩ := Box.c FA_1.out
    obtain ⟨b0, b1, b2⟩ := Box.c FB_1.out
    go_wp2_with fail
    clear  a0 a1 a2 b0 b1 b2
    refine ((HC1).out _).mono ?_
    rintro e w_2 ⟨rfl, hb⟩
    have hbn : Below w_1.heap.size w_1 w_2 := (((Below.refl w_1.heap.size w_1).alloc (by simp) (.cells #[.int .i64 n, .string s, .string r] 24)).alloc (by simp) (.cells #[.int .i64 m, .string t, .string q] 24)).trans (hb.mono (show w_1.heap.size ≤ _ by simp <;> omega))
    have FA_2 := Lib.hid (FA_1.out.below hb (by simp <;> omega))
    have FB_2 := Lib.hid (FB_1.out.below hb (by simp <;> omega))
    have AW_2 : Hid (Below w.heap.size w w_2) := AW_1.out.trans (hbn.mono AW_1.out.size)
    clear hbn AW_1 FA_1 FB_1
    clear hb
    have FC_2 : Hid (Box 24 (w_2.alloc (.cells #[.int .i64 x, .string y, .string z] 24)) (w_2.heap.size) x y z) := Box.new _ w_2 (w_2.heap.size) (by simp) _ _ _
    obtain ⟨a0, a1, a2⟩ := Box.c (FA_2.out.below ((Below.refl w_2.heap.size w_2).alloc (by simp) (.cells #[.int .i64 x, .string y, .string z] 24)) FA_2.out.lt)
    obtain ⟨a_0, a_1, a_2⟩ := Box.c FA_2.out
    have alt := FA_2.out.lt
    obtain ⟨b0, b1, b2⟩ := Box.c (FB_2.out.below ((Below.refl w_2.heap.size w_2).alloc (by simp) (.cells #[.int .i64 x, .string y, .string z] 24)) FB_2.out.lt)
    obtain ⟨b_0, b_1, b_2⟩ := Box.c FB_2.out
    have blt := FB_2.out.lt
    go_wp2_with fail
    clear  a0 a1 a2 a_0 a_1 a_2 alt b0 b1 b2 b_0 b_1 b_2 blt
    refine ((HC2).out _).mono ?_
    rintro e w_3 ⟨rfl, hb⟩
    have hbn : Below w_2.heap.size w_2 w_3 := ((Below.refl w_2.heap.size w_2).alloc (by simp) (.cells #[.int .i64 x, .string y, .string z] 24)).trans (hb.mono (show w_2.heap.size ≤ _ by simp))
    have FA_3 := Lib.hid (FA_2.out.below hbn FA_2.out.lt)
    have FB_3 := Lib.hid (FB_2.out.below hbn FB_2.out.lt)
    have FC_3 := Lib.hid (FC_2.out.below hb (by simp))
    have AW_3 : Hid (Below w.heap.size w w_3) := AW_2.out.trans (hbn.mono AW_2.out.size)
    clear hbn AW_2 FA_2 FB_2 FC_2
    clear hb
    have FD_3 : Hid (Box 24 (w_3.alloc (.cells #[.int .i64 x, .string y, .string z] 24)) (w_3.heap.size) x y z) := Box.new _ w_3 (w_3.heap.size) (by simp) _ _ _
    obtain ⟨a0, a1, a2⟩ := Box.c (FA_3.out.below ((Below.refl w_3.heap.size w_3).alloc (by simp) (.cells #[.int .i64 x, .string y, .string z] 24)) FA_3.out.lt)
    obtain ⟨a_0, a_1, a_2⟩ := Box.c FA_3.out
    have alt := FA_3.out.lt
    obtain ⟨b0, b1, b2⟩ := Box.c (FB_3.out.below ((Below.refl w_3.heap.size w_3).alloc (by simp) (.cells #[.int .i64 x, .string y, .string z] 24)) FB_3.out.lt)
    obtain ⟨b_0, b_1, b_2⟩ := Box.c FB_3.out
    have blt := FB_3.out.lt
    go_wp2_with fail
    clear  a0 a1 a2 a_0 a_1 a_2 alt b0 b1 b2 b_0 b_1 b_2 blt
    refine ((HC3).out _).mono ?_
    rintro e w_4 ⟨rfl, hb⟩
    have hbn : Below w_3.heap.size w_3 w_4 := ((Below.refl w_3.heap.size w_3).alloc (by simp) (.cells #[.int .i64 x, .string y, .string z] 24)).trans (hb.mono (show w_3.heap.size ≤ _ by simp))
    have FA_4 := Lib.hid (FA_3.out.below hbn FA_3.out.lt)
    have FB_4 := Lib.hid (FB_3.out.below hbn FB_3.out.lt)
    have FC_4 := Lib.hid (FC_3.out.below hbn FC_3.out.lt)
    have FD_4 := Lib.hid (FD_3.out.below hb (by simp))
    have AW_4 : Hid (Below w.heap.size w w_4) := AW_3.out.trans (hbn.mono AW_3.out.size)
    clear hbn AW_3 FA_3 FB_3 FC_3 FD_3
    clear hb
    have FE_4 : Hid (Box 24 (w_4.alloc (.cells #[.int .i64 x, .string y, .string z2] 24)) (w_4.heap.size) x y z2) := Box.new _ w_4 (w_4.heap.size) (by simp) _ _ _
    obtain ⟨a0, a1, a2⟩ := Box.c (FA_4.out.below ((Below.refl w_4.heap.size w_4).alloc (by simp) (.cells #[.int .i64 x, .string y, .string z2] 24)) FA_4.out.lt)
    obtain ⟨a_0, a_1, a_2⟩ := Box.c FA_4.out
    have alt := FA_4.out.lt
    obtain ⟨b0, b1, b2⟩ := Box.c (FB_4.out.below ((Below.refl w_4.heap.size w_4).alloc (by simp) (.cells #[.int .i64 x, .string y, .string z2] 24)) FB_4.out.lt)
    obtain ⟨b_0, b_1, b_2⟩ := Box.c FB_4.out
    have blt := FB_4.out.lt
    go_wp2_with fail
    clear  a0 a1 a2 a_0 a_1 a_2 alt b0 b1 b2 b_0 b_1 b_2 blt
    refine ((HC4).out _).mono ?_
    rintro e w_5 ⟨rfl, hb⟩
    have hbn : Below w_4.heap.size w_4 w_5 := ((Below.refl w_4.heap.size w_4).alloc (by simp) (.cells #[.int .i64 x, .string y, .string z2] 24)).trans (hb.mono (show w_4.heap.size ≤ _ by simp))
    have FA_5 := Lib.hid (FA_4.out.below hbn FA_4.out.lt)
    have FB_5 := Lib.hid (FB_4.out.below hbn FB_4.out.lt)
    have FC_5 := Lib.hid (FC_4.out.below hbn FC_4.out.lt)
    have FD_5 := Lib.hid (FD_4.out.below hbn FD_4.out.lt)
    have FE_5 := Lib.hid (FE_4.out.below hb (by simp))
    have AW_5 : Hid (Below w.heap.size w w_5) := AW_4.out.trans (hbn.mono AW_4.out.size)
    clear hbn AW_4 FA_4 FB_4 FC_4 FD_4 FE_4
    clear hb
    have FG_5 : Hid (Box 24 (w_5.alloc (.cells #[.int .i64 x, .string y, .string z2] 24)) (w_5.heap.size) x y z2) := Box.new _ w_5 (w_5.heap.size) (by simp) _ _ _
    obtain ⟨c0, c1, c2⟩ := Box.c (FC_5.out.below ((Below.refl w_5.heap.size w_5).alloc (by simp) (.cells #[.int .i64 x, .string y, .string z2] 24)) FC_5.out.lt)
    obtain ⟨c_0, c_1, c_2⟩ := Box.c FC_5.out
    have clt := FC_5.out.lt
    obtain ⟨d0, d1, d2⟩ := Box.c (FD_5.out.below ((Below.refl w_5.heap.size w_5).alloc (by simp) (.cells #[.int .i64 x, .string y, .string z2] 24)) FD_5.out.lt)
    obtain ⟨d_0, d_1, d_2⟩ := Box.c FD_5.out
    have dlt := FD_5.out.lt
    obtain ⟨e0, e1, e2⟩ := Box.c (FE_5.out.below ((Below.refl w_5.heap.size w_5).alloc (by simp) (.cells #[.int .i64 x, .string y, .string z2] 24)) FE_5.out.lt)
    obtain ⟨e_0, e_1, e_2⟩ := Box.c FE_5.out
    have elt := FE_5.out.lt
    obtain ⟨g0, g1, g2⟩ := Box.c FG_5.out
    have q1 := neq_struct x y z
    have q2 := eq_struct x y z
    have q3 := neq_struct x y z2
    have q4 := eq_struct x y z2
    go_wp2
    go_ret
    exact ⟨rfl, AW_5.out.trans (((Below.refl w_5.heap.size w_5).alloc (by simp) (.cells #[.int .i64 x, .string y, .string z2] 24)).mono AW_5.out.size)⟩
  · have HC1 := Lib.hid hc1
    have HC2 := Lib.hid hc2
    have HC3 := Lib.hid hc3
    have HC4 := Lib.hid hc4
    have HC5 := Lib.hid hc5
    have HF := Lib.hid hf
    have hk8 := hf.k8
    have hk1 : N + M ≤ K := by rw [hf.k]; exact Nat.le_refl _
    have hk2 : K ≤ N + M := by rw [hf.k]; exact Nat.le_refl _
    have hsq : K * K ≤ 64 := sq8 hf.k8 hf.k
    have hn1 := hf.n
    have hm1 := hf.m
    clear hc1 hc2 hc3 hc4 hc5 hf hnw hmw hs hr ht hq
    obtain ⟨a0, a1, a2⟩ := Box.c FA_1.out
    obtain ⟨b0, b1, b2⟩ := Box.c FB_1.out
    go_wp2_with fail
    clear  a0 a1 a2 b0 b1 b2
    refine ((HC1).out _).mono ?_
    rintro e w_2 ⟨rfl, hb⟩
    have hbn : Below w_1.heap.size w_1 w_2 := (((Below.refl w_1.heap.size w_1).alloc (by simp) (.cells #[.int .i64 N, .string s, .string r] 24)).alloc (by simp) (.cells #[.int .i64 M, .string t, .string q] 24)).trans (hb.mono (show w_1.heap.size ≤ _ by simp <;> omega))
    have FA_2 := Lib.hid (FA_1.out.below hb (by simp <;> omega))
    have FB_2 := Lib.hid (FB_1.out.below hb (by simp <;> omega))
    have AW_2 : Hid (Below w.heap.size w w_2) := AW_1.out.trans (hbn.mono AW_1.out.size)
    clear hbn AW_1 FA_1 FB_1
    clear hb
    have FC_2 : Hid (Box 24 (w_2.alloc (.cells #[.int .i64 K, .string S1, .string R1] 24)) (w_2.heap.size) K S1 R1) := Box.new _ w_2 (w_2.heap.size) (by simp) _ _ _
    obtain ⟨a0, a1, a2⟩ := Box.c (FA_2.out.below ((Below.refl w_2.heap.size w_2).alloc (by simp) (.cells #[.int .i64 K, .string S1, .string R1] 24)) FA_2.out.lt)
    obtain ⟨a_0, a_1, a_2⟩ := Box.c FA_2.out
    have alt := FA_2.out.lt
    obtain ⟨b0, b1, b2⟩ := Box.c (FB_2.out.below ((Below.refl w_2.heap.size w_2).alloc (by simp) (.cells #[.int .i64 K, .string S1, .string R1] 24)) FB_2.out.lt)
    obtain ⟨b_0, b_1, b_2⟩ := Box.c FB_2.out
    have blt := FB_2.out.lt
    go_wp2_with fail
    clear  a0 a1 a2 a_0 a_1 a_2 alt b0 b1 b2 b_0 b_1 b_2 blt
    refine ((HC2).out _).mono ?_
    rintro e w_3 ⟨rfl, hb⟩
    have hbn : Below w_2.heap.size w_2 w_3 := ((Below.refl w_2.heap.size w_2).alloc (by simp) (.cells #[.int .i64 K, .string S1, .string R1] 24)).trans (hb.mono (show w_2.heap.size ≤ _ by simp))
    have FA_3 := Lib.hid (FA_2.out.below hbn FA_2.out.lt)
    have FB_3 := Lib.hid (FB_2.out.below hbn FB_2.out.lt)
    have FC_3 := Lib.hid (FC_2.out.below hb (by simp))
    have AW_3 : Hid (Below w.heap.size w w_3) := AW_2.out.trans (hbn.mono AW_2.out.size)
    clear hbn AW_2 FA_2 FB_2 FC_2
    clear hb
    have FD_3 : Hid (Box 24 (w_3.alloc (.cells #[.int .i64 K, .string S1, .string R1] 24)) (w_3.heap.size) K S1 R1) := Box.new _ w_3 (w_3.heap.size) (by simp) _ _ _
    obtain ⟨a0, a1, a2⟩ := Box.c (FA_3.out.below ((Below.refl w_3.heap.size w_3).alloc (by simp) (.cells #[.int .i64 K, .string S1, .string R1] 24)) FA_3.out.lt)
    obtain ⟨a_0, a_1, a_2⟩ := Box.c FA_3.out
    have alt := FA_3.out.lt
    obtain ⟨b0, b1, b2⟩ := Box.c (FB_3.out.below ((Below.refl w_3.heap.size w_3).alloc (by simp) (.cells #[.int .i64 K, .string S1, .string R1] 24)) FB_3.out.lt)
    obtain ⟨b_0, b_1, b_2⟩ := Box.c FB_3.out
    have blt := FB_3.out.lt
    go_wp2_with fail
    clear  a0 a1 a2 a_0 a_1 a_2 alt b0 b1 b2 b_0 b_1 b_2 blt
    refine ((HC3).out _).mono ?_
    rintro e w_4 ⟨rfl, hb⟩
    have hbn : Below w_3.heap.size w_3 w_4 := ((Below.refl w_3.heap.size w_3).alloc (by simp) (.cells #[.int .i64 K, .string S1, .string R1] 24)).trans (hb.mono (show w_3.heap.size ≤ _ by simp))
    have FA_4 := Lib.hid (FA_3.out.below hbn FA_3.out.lt)
    have FB_4 := Lib.hid (FB_3.out.below hbn FB_3.out.lt)
    have FC_4 := Lib.hid (FC_3.out.below hbn FC_3.out.lt)
    have FD_4 := Lib.hid (FD_3.out.below hb (by simp))
    have AW_4 : Hid (Below w.heap.size w w_4) := AW_3.out.trans (hbn.mono AW_3.out.size)
    clear hbn AW_3 FA_3 FB_3 FC_3 FD_3
    clear hb
    have FE_4 : Hid (Box 24 (w_4.alloc (.cells #[.int .i64 K, .string S1, .string R2] 24)) (w_4.heap.size) K S1 R2) := Box.new _ w_4 (w_4.heap.size) (by simp) _ _ _
    obtain ⟨a0, a1, a2⟩ := Box.c (FA_4.out.below ((Below.refl w_4.heap.size w_4).alloc (by simp) (.cells #[.int .i64 K, .string S1, .string R2] 24)) FA_4.out.lt)
    obtain ⟨a_0, a_1, a_2⟩ := Box.c FA_4.out
    have alt := FA_4.out.lt
    obtain ⟨b0, b1, b2⟩ := Box.c (FB_4.out.below ((Below.refl w_4.heap.size w_4).alloc (by simp) (.cells #[.int .i64 K, .string S1, .string R2] 24)) FB_4.out.lt)
    obtain ⟨b_0, b_1, b_2⟩ := Box.c FB_4.out
    have blt := FB_4.out.lt
    go_wp2_with fail
    clear  a0 a1 a2 a_0 a_1 a_2 alt b0 b1 b2 b_0 b_1 b_2 blt
    refine ((HC4).out _).mono ?_
    rintro e w_5 ⟨rfl, hb⟩
    have hbn : Below w_4.heap.size w_4 w_5 := ((Below.refl w_4.heap.size w_4).alloc (by simp) (.cells #[.int .i64 K, .string S1, .string R2] 24)).trans (hb.mono (show w_4.heap.size ≤ _ by simp))
    have FA_5 := Lib.hid (FA_4.out.below hbn FA_4.out.lt)
    have FB_5 := Lib.hid (FB_4.out.below hbn FB_4.out.lt)
    have FC_5 := Lib.hid (FC_4.out.below hbn FC_4.out.lt)
    have FD_5 := Lib.hid (FD_4.out.below hbn FD_4.out.lt)
    have FE_5 := Lib.hid (FE_4.out.below hb (by simp))
    have AW_5 : Hid (Below w.heap.size w w_5) := AW_4.out.trans (hbn.mono AW_4.out.size)
    clear hbn AW_4 FA_4 FB_4 FC_4 FD_4 FE_4
    clear hb
    have FG_5 : Hid (Box 24 (w_5.alloc (.cells #[.int .i64 K, .string S1, .string R2] 24)) (w_5.heap.size) K S1 R2) := Box.new _ w_5 (w_5.heap.size) (by simp) _ _ _
    obtain ⟨c0, c1, c2⟩ := Box.c (FC_5.out.below ((Below.refl w_5.heap.size w_5).alloc (by simp) (.cells #[.int .i64 K, .string S1, .string R2] 24)) FC_5.out.lt)
    obtain ⟨c_0, c_1, c_2⟩ := Box.c FC_5.out
    have clt := FC_5.out.lt
    obtain ⟨d0, d1, d2⟩ := Box.c (FD_5.out.below ((Below.refl w_5.heap.size w_5).alloc (by simp) (.cells #[.int .i64 K, .string S1, .string R2] 24)) FD_5.out.lt)
    obtain ⟨d_0, d_1, d_2⟩ := Box.c FD_5.out
    have dlt := FD_5.out.lt
    obtain ⟨e0, e1, e2⟩ := Box.c (FE_5.out.below ((Below.refl w_5.heap.size w_5).alloc (by simp) (.cells #[.int .i64 K, .string S1, .string R2] 24)) FE_5.out.lt)
    obtain ⟨e_0, e_1, e_2⟩ := Box.c FE_5.out
    have elt := FE_5.out.lt
    obtain ⟨g0, g1, g2⟩ := Box.c FG_5.out
    have q1 := neq_struct K S1 R1
    have q3 := neq_struct K S1 R2
    go_upto_region 10 with (fail)
    clear q1 q3 c0 c1 c2 c_0 c_1 c_2 clt d0 d1 d2 d_0 d_1 d_2 dlt e0 e1 e2 e_0 e_1 e_2 elt g0 g1 g2
    have AX := Lib.hid (AW_5.out.trans (((Below.refl w_5.heap.size w_5).alloc (by simp) (.cells #[.int .i64 K, .string S1, .string R2] 24)).mono AW_5.out.size))
    have XA := Lib.hid (FA_5.out.below ((Below.refl w_5.heap.size w_5).alloc (by simp) (.cells #[.int .i64 K, .string S1, .string R2] 24)) FA_5.out.lt)
    have XB := Lib.hid (FB_5.out.below ((Below.refl w_5.heap.size w_5).alloc (by simp) (.cells #[.int .i64 K, .string S1, .string R2] 24)) FB_5.out.lt)
    have XC := Lib.hid (FC_5.out.below ((Below.refl w_5.heap.size w_5).alloc (by simp) (.cells #[.int .i64 K, .string S1, .string R2] 24)) FC_5.out.lt)
    have XE := Lib.hid (FE_5.out.below ((Below.refl w_5.heap.size w_5).alloc (by simp) (.cells #[.int .i64 K, .string S1, .string R2] 24)) FE_5.out.lt)
    clear AW_5 FA_5 FB_5 FC_5 FD_5 FE_5 FG_5
    obtain ⟨W9, hW9⟩ : ∃ QZ, QZ = (w_5.alloc (.cells #[.int .i64 K, .string S1, .string R2] 24)) := ⟨_, rfl⟩
    rw [← hW9] at AX
    rw [← hW9] at XA
    rw [← hW9] at XB
    rw [← hW9] at XC
    rw [← hW9] at XE
    try rw [← hW9]
    have HW9 := Lib.hid hW9
    clear hW9
    obtain ⟨H9, h9⟩ : ∃ QZ, QZ = W9.heap.size := ⟨_, rfl⟩
    have lw : w.heap.size ≤ H9 := by rw [h9]; exact AX.out.size
    have la := XA.out.lt
    have lb := XB.out.lt
    have lc := XC.out.lt
    have le := XE.out.lt
    rw [← h9] at la lb lc le
    have AL : Hid (Below H9 W9 ((W9.alloc (.cells #[] 3)).alloc (.cells #[] 3))) := ((Below.refl _ _).alloc (by omega) _).alloc (by simp; omega) _
    have TW : Hid (Two 3 ((W9.alloc (.cells #[] 3)).alloc (.cells #[] 3)) H9 (.slice (some ⟨H9, 0, none⟩) 0 0) (.slice (some ⟨H9 + 1, 0, none⟩) 0 0) (lo N 0) (hi N 0)) := by
      have e1 : lo N 0 = [] := by unfold lo; rw [show min 0 N = 0 by omega]; rfl
      have e2 : hi N 0 = [] := by unfold hi; rw [show 0 - N = 0 by omega]; rfl
      rw [e1, e2]
      refine ⟨?_, ?_, ?_⟩
      · exact (emptyRow 3 W9 H9 H9 h9.symm (Nat.le_refl _)).below ((Below.refl _ _).alloc (Nat.le_refl _) _) (Nat.le_refl _)
      · exact emptyRow 3 _ H9 (H9 + 1) (by simp; omega) (by omega)
      · intro k h1 h2
        simp [Value.ownBlock] at h1 h2
        omega
    have HST : Hid (Below w.heap.size w ((W9.alloc (.cells #[] 3)).alloc (.cells #[] 3)) ∧ H9 ≤ ((W9.alloc (.cells #[] 3)).alloc (.cells #[] 3)).heap.size ∧ Box 24 ((W9.alloc (.cells #[] 3)).alloc (.cells #[] 3)) w_1.heap.size N s r ∧ Box 24 ((W9.alloc (.cells #[] 3)).alloc (.cells #[] 3)) (w_1.heap.size + 1) M t q ∧ Box 24 ((W9.alloc (.cells #[] 3)).alloc (.cells #[] 3)) w_2.heap.size K S1 R1 ∧ Box 24 ((W9.alloc (.cells #[] 3)).alloc (.cells #[] 3)) w_4.heap.size K S1 R2) :=
      ⟨AX.out.trans (AL.out.mono (by have := AX.out.size; omega)), by simp; omega, XA.out.below AL.out la, XB.out.below AL.out lb, XC.out.below AL.out lc, XE.out.below AL.out le⟩
    have HH9 := Lib.hid h9
    clear AX XA XB XC XE AL h9
    go_wp2_with fail
    try rw [← HW9.out]
    try rw [← HH9.out]
    clear HW9
    go_loopw [13, 14, 15] (fun v1 v2 i wr => ∃ X : Nat, ∃ u1 u2 : Value, u1 = v1 ∧ u2 = v2 ∧ X ≤ K ∧ i = .int .i64 X ∧ Below w.heap.size w wr ∧ H9 ≤ wr.heap.size ∧ Box 24 wr w_1.heap.size N s r ∧ Box 24 wr (w_1.heap.size + 1) M t q ∧ Box 24 wr w_2.heap.size K S1 R1 ∧ Box 24 wr w_4.heap.size K S1 R2 ∧ Two 3 wr H9 u1 u2 (lo N X) (hi N X)) (fun _ _ i _ => K - (intOf i).toNat)
    case atStart => exact ⟨0, _, _, rfl, rfl, Nat.zero_le _, rfl, HST.out.1, HST.out.2.1, HST.out.2.2.1, HST.out.2.2.2.1, HST.out.2.2.2.2.1, HST.out.2.2.2.2.2, TW.out⟩
    case round =>
      clear HST TW
      obtain ⟨X, u1, u2, rfl, rfl, hXK, rfl, i1, i2, i3, i4, i5, i6, i7⟩ := hrel
      have HS := Lib.hid (show _ ∧ _ ∧ _ ∧ _ ∧ _ ∧ _ from ⟨i1, i2, i3, i4, i5, i6⟩)
      have TW := Lib.hid i7
      clear i1 i2 i3 i4 i5 i6 i7
      obtain ⟨a0, a1, a2⟩ := Box.c HS.out.2.2.1
      obtain ⟨b0, b1, b2⟩ := Box.c HS.out.2.2.2.1
      obtain ⟨c0, c1, c2⟩ := Box.c HS.out.2.2.2.2.1
      obtain ⟨e0, e1, e2⟩ := Box.c HS.out.2.2.2.2.2
      by_cases hXk : X < K
      · have tX : decide ((X : Int) < (K : Int)) = true := by simp; omega
        by_cases hXN : X < N
        · have tN : decide ((X : Int) < (N : Int)) = true := by simp; omega
          go_wp2_with (at_builtin; refine wpList_app1 wr rfl (.tmp 122) (.tmp 124) 32 rfl H9 3 (.int .i64 0) 8 Tryd.underlying32 sl.infoInt rfl (by decide) _ _ _ (.int .i64 X) rfl TW.out.1 wr.heap.size rfl rfl rfl (by have := lo_len N X; omega) HS.out.2.1 ?_)
          intro g cap' w1 hown1 hgr
          have hown1' : OwnI 3 w1 H9 (.slice (some ⟨g, 0, none⟩) ((lo N X).length + 1) cap') (lo N (X + 1)) := by
            rw [(lo_yes hXN).1]; unfold OwnI; rw [List.length_append, ivs_append]; exact hown1
          have ht := TW.out.left hgr hown1'
          rw [← (lo_yes hXN).2] at ht
          have hbw := hgr.below TW.out.1 HS.out.2.1
          have HS1 : Hid (Below w.heap.size w w1 ∧ H9 ≤ w1.heap.size ∧ Box 24 w1 w_1.heap.size N s r ∧ Box 24 w1 (w_1.heap.size + 1) M t q ∧ Box 24 w1 w_2.heap.size K S1 R1 ∧ Box 24 w1 w_4.heap.size K S1 R2) := ⟨HS.out.1.trans (hbw.mono (by have := HS.out.1.size; omega)), Nat.le_trans HS.out.2.1 hbw.size, HS.out.2.2.1.below hbw la, HS.out.2.2.2.1.below hbw lb, HS.out.2.2.2.2.1.below hbw lc, HS.out.2.2.2.2.2.below hbw le⟩
          have TW1 := Lib.hid ht
          clear hown1 hgr hown1' ht hbw TW HS a0 a1 a2 b0 b1 b2 c0 c1 c2 e0 e1 e2
          obtain ⟨a0, a1, a2⟩ := Box.c HS1.out.2.2.1
          obtain ⟨c0, c1, c2⟩ := Box.c HS1.out.2.2.2.2.1
          go_wp2_with fail
          go_loopw [16] (fun i wr => ∃ Y : Nat, (N ≤ Y ∧ Y ≤ K) ∧ i = .int .i64 Y ∧ Below w.heap.size w wr ∧ H9 ≤ wr.heap.size ∧ Box 24 wr w_1.heap.size N s r ∧ Box 24 wr (w_1.heap.size + 1) M t q ∧ Box 24 wr w_2.heap.size K S1 R1 ∧ Box 24 wr w_4.heap.size K S1 R2 ∧ Two 3 wr H9 (.slice (some ⟨g, 0, none⟩) ((lo N X).length + 1) cap') u2 (lo N (X + 1)) (hi N (X + 1))) (fun i _ => K - (intOf i).toNat)
          case atStart => exact ⟨N, ⟨Nat.le_refl _, by omega⟩, rfl, HS1.out.1, HS1.out.2.1, HS1.out.2.2.1, HS1.out.2.2.2.1, HS1.out.2.2.2.2.1, HS1.out.2.2.2.2.2, TW1.out⟩
          case round =>
            clear HS1 TW1 a0 a1 a2 c0 c1 c2
            obtain ⟨Y, hY, rfl, i1, i2, i3, i4, i5, i6, i7⟩ := hrel
            have HS := Lib.hid (show _ ∧ _ ∧ _ ∧ _ ∧ _ ∧ _ from ⟨i1, i2, i3, i4, i5, i6⟩)
            have TW := Lib.hid i7
            clear i1 i2 i3 i4 i5 i6 i7
            obtain ⟨a0, a1, a2⟩ := Box.c HS.out.2.2.1
            obtain ⟨b0, b1, b2⟩ := Box.c HS.out.2.2.2.1
            obtain ⟨c0, c1, c2⟩ := Box.c HS.out.2.2.2.2.1
            obtain ⟨e0, e1, e2⟩ := Box.c HS.out.2.2.2.2.2
            by_cases hYK : Y < K
            · have tY : decide ((Y : Int) < (K : Int)) = true := by simp; omega
              have AW_90 := Lib.hid HS.out.1
              have FA_90 := Lib.hid HS.out.2.2.1
              have FB_90 := Lib.hid HS.out.2.2.2.1
              have FC_90 := Lib.hid HS.out.2.2.2.2.1
              have FE_90 := Lib.hid HS.out.2.2.2.2.2
              have G_90 := Lib.hid HS.out.2.1
              have T_90 := TW
              clear HS TW
              go_wp2_with fail
              clear a0 a1 a2 b0 b1 b2 c0 c1 c2 e0 e1 e2
              refine (inrel.implInRel_any K S1 R1 X Y _ HF.out.v1 (by omega) (by omega) (by have := HF.out.z1; omega) (by have := HF.out.z1; omega)).mono ?_
              rintro e w_91 ⟨rfl, hb⟩
              have hbn := hb
              have FA_91 := Lib.hid (FA_90.out.below hbn FA_90.out.lt)
              have FB_91 := Lib.hid (FB_90.out.below hbn FB_90.out.lt)
              have FC_91 := Lib.hid (FC_90.out.below hbn FC_90.out.lt)
              have FE_91 := Lib.hid (FE_90.out.below hbn FE_90.out.lt)
              have AW_91 : Hid (Below w.heap.size w w_91) := AW_90.out.trans (hbn.mono AW_90.out.size)
              clear hbn AW_90 FA_90 FB_90 FC_90 FE_90
              have G_91 : Hid (H9 ≤ w_91.heap.size) := Nat.le_trans G_90.out hb.size
              have T_91 := Lib.hid (two_below T_90.out hb (Nat.le_refl _))
              rw [HF.out.b1 X Y hXN (by omega) (by omega)]
              clear hb G_90 T_90
              obtain ⟨a0, a1, a2⟩ := Box.c FA_91.out
              obtain ⟨b0, b1, b2⟩ := Box.c FB_91.out
              obtain ⟨c0, c1, c2⟩ := Box.c FC_91.out
              obtain ⟨e0, e1, e2⟩ := Box.c FE_91.out
              go_wp2_with fail
              clear a0 a1 a2 b0 b1 b2 c0 c1 c2 e0 e1 e2
              refine (inrel.implInRel_any K S1 R1 Y X _ HF.out.v1 (by omega) (by omega) (by have := HF.out.z1; omega) (by have := HF.out.z1; omega)).mono ?_
              rintro e w_92 ⟨rfl, hb⟩
              have hbn := hb
              have FA_92 := Lib.hid (FA_91.out.below hbn FA_91.out.lt)
              have FB_92 := Lib.hid (FB_91.out.below hbn FB_91.out.lt)
              have FC_92 := Lib.hid (FC_91.out.below hbn FC_91.out.lt)
              have FE_92 := Lib.hid (FE_91.out.below hbn FE_91.out.lt)
              have AW_92 : Hid (Below w.heap.size w w_92) := AW_91.out.trans (hbn.mono AW_91.out.size)
              clear hbn AW_91 FA_91 FB_91 FC_91 FE_91
              have G_92 : Hid (H9 ≤ w_92.heap.size) := Nat.le_trans G_91.out hb.size
              have T_92 := Lib.hid (two_below T_91.out hb (Nat.le_refl _))
              rw [HF.out.b2 X Y hXN (by omega) (by omega)]
              clear hb G_91 T_91
              obtain ⟨a0, a1, a2⟩ := Box.c FA_92.out
              obtain ⟨b0, b1, b2⟩ := Box.c FB_92.out
              obtain ⟨c0, c1, c2⟩ := Box.c FC_92.out
              obtain ⟨e0, e1, e2⟩ := Box.c FE_92.out
              go_wp2_with fail
              clear a0 a1 a2 b0 b1 b2 c0 c1 c2 e0 e1 e2
              refine (inrel.implInRel_any K S1 R2 X Y _ HF.out.v2 (by omega) (by omega) (by have := HF.out.z1; omega) (by have := HF.out.z1; omega)).mono ?_
              rintro e w_93 ⟨rfl, hb⟩
              have hbn := hb
              have FA_93 := Lib.hid (FA_92.out.below hbn FA_92.out.lt)
              have FB_93 := Lib.hid (FB_92.out.below hbn FB_92.out.lt)
              have FC_93 := Lib.hid (FC_92.out.below hbn FC_92.out.lt)
              have FE_93 := Lib.hid (FE_92.out.below hbn FE_92.out.lt)
              have AW_93 : Hid (Below w.heap.size w w_93) := AW_92.out.trans (hbn.mono AW_92.out.size)
              clear hbn AW_92 FA_92 FB_92 FC_92 FE_92
              have G_93 : Hid (H9 ≤ w_93.heap.size) := Nat.le_trans G_92.out hb.size
              have T_93 := Lib.hid (two_below T_92.out hb (Nat.le_refl _))
              rw [HF.out.b3 X Y hXN (by omega) (by omega)]
              clear hb G_92 T_92
              obtain ⟨a0, a1, a2⟩ := Box.c FA_93.out
              obtain ⟨b0, b1, b2⟩ := Box.c FB_93.out
              obtain ⟨c0, c1, c2⟩ := Box.c FC_93.out
              obtain ⟨e0, e1, e2⟩ := Box.c FE_93.out
              go_wp2_with fail
              clear a0 a1 a2 b0 b1 b2 c0 c1 c2 e0 e1 e2
              refine (inrel.implInRel_any K S1 R2 Y X _ HF.out.v2 (by omega) (by omega) (by have := HF.out.z1; omega) (by have := HF.out.z1; omega)).mono ?_
              rintro e w_94 ⟨rfl, hb⟩
              have hbn := hb
              have FA_94 := Lib.hid (FA_93.out.below hbn FA_93.out.lt)
              have FB_94 := Lib.hid (FB_93.out.below hbn FB_93.out.lt)
              have FC_94 := Lib.hid (FC_93.out.below hbn FC_93.out.lt)
              have FE_94 := Lib.hid (FE_93.out.below hbn FE_93.out.lt)
              have AW_94 : Hid (Below w.heap.size w w_94) := AW_93.out.trans (hbn.mono AW_93.out.size)
              clear hbn AW_93 FA_93 FB_93 FC_93 FE_93
              have G_94 : Hid (H9 ≤ w_94.heap.size) := Nat.le_trans G_93.out hb.size
              have T_94 := Lib.hid (two_below T_93.out hb (Nat.le_refl _))
              rw [HF.out.b4 X Y hXN (by omega) (by omega)]
              clear hb G_93 T_93
              go_wp2
              go_roundw
              case rel => exact ⟨Y + 1, by omega, by go_num, AW_94.out, G_94.out, FA_94.out, FB_94.out, FC_94.out, FE_94.out, T_94.out⟩
              case measure => simp [intOf]; omega
            · obtain rfl : K = Y := by omega
              go_wp2
              go_roundw
              case rel =>
                first | exact ⟨X + 1, _, _, rfl, rfl, by omega, by go_num, HS.out.1, HS.out.2.1, HS.out.2.2.1, HS.out.2.2.2.1, HS.out.2.2.2.2.1, HS.out.2.2.2.2.2, TW.out⟩ | ((repeat apply Exists.intro); exact ⟨⟨X + 1, _, _, rfl, rfl, by omega, by go_num, HS.out.1, HS.out.2.1, HS.out.2.2.1, HS.out.2.2.2.1, HS.out.2.2.2.2.1, HS.out.2.2.2.2.2, TW.out⟩, rfl⟩)
              case measure => simp [intOf]; omega
        · have tN : decide ((X : Int) < (N : Int)) = false := by simp; omega
          go_wp2_with (at_builtin; refine wpList_app1 wr rfl (.tmp 126) (.tmp 128) 32 rfl H9 3 (.int .i64 0) 8 Tryd.underlying32 sl.infoInt rfl (by decide) _ _ _ (.int .i64 X) rfl TW.out.2.1 wr.heap.size rfl rfl rfl (by have := lo_len N X; omega) HS.out.2.1 ?_)
          intro g cap' w1 hown1 hgr
          have hown1' : OwnI 3 w1 H9 (.slice (some ⟨g, 0, none⟩) ((hi N X).length + 1) cap') (hi N (X + 1)) := by
            rw [(hi_yes (by omega : N ≤ X)).1]; unfold OwnI; rw [List.length_append, ivs_append]; exact hown1
          have ht := TW.out.right hgr hown1'
          rw [← (hi_yes (by omega : N ≤ X)).2] at ht
          have hbw := hgr.below TW.out.2.1 HS.out.2.1
          have HS1 : Hid (Below w.heap.size w w1 ∧ H9 ≤ w1.heap.size ∧ Box 24 w1 w_1.heap.size N s r ∧ Box 24 w1 (w_1.heap.size + 1) M t q ∧ Box 24 w1 w_2.heap.size K S1 R1 ∧ Box 24 w1 w_4.heap.size K S1 R2) := ⟨HS.out.1.trans (hbw.mono (by have := HS.out.1.size; omega)), Nat.le_trans HS.out.2.1 hbw.size, HS.out.2.2.1.below hbw la, HS.out.2.2.2.1.below hbw lb, HS.out.2.2.2.2.1.below hbw lc, HS.out.2.2.2.2.2.below hbw le⟩
          have TW1 := Lib.hid ht
          clear hown1 hgr hown1' ht hbw TW HS a0 a1 a2 b0 b1 b2 c0 c1 c2 e0 e1 e2
          obtain ⟨a0, a1, a2⟩ := Box.c HS1.out.2.2.1
          obtain ⟨c0, c1, c2⟩ := Box.c HS1.out.2.2.2.2.1
          go_wp2_with fail
          go_loopw [16] (fun i wr => ∃ Y : Nat, Y = N ∧ i = .int .i64 Y ∧ Below w.heap.size w wr ∧ H9 ≤ wr.heap.size ∧ Box 24 wr w_1.heap.size N s r ∧ Box 24 wr (w_1.heap.size + 1) M t q ∧ Box 24 wr w_2.heap.size K S1 R1 ∧ Box 24 wr w_4.heap.size K S1 R2 ∧ Two 3 wr H9 u1 (.slice (some ⟨g, 0, none⟩) ((hi N X).length + 1) cap') (lo N (X + 1)) (hi N (X + 1))) (fun i _ => 1 - (intOf i).toNat)
          case atStart => exact ⟨N, rfl, rfl, HS1.out.1, HS1.out.2.1, HS1.out.2.2.1, HS1.out.2.2.2.1, HS1.out.2.2.2.2.1, HS1.out.2.2.2.2.2, TW1.out⟩
          case round =>
            clear HS1 TW1 a0 a1 a2 c0 c1 c2
            obtain ⟨Y, hY, rfl, i1, i2, i3, i4, i5, i6, i7⟩ := hrel
            have HS := Lib.hid (show _ ∧ _ ∧ _ ∧ _ ∧ _ ∧ _ from ⟨i1, i2, i3, i4, i5, i6⟩)
            have TW := Lib.hid i7
            clear i1 i2 i3 i4 i5 i6 i7
            obtain ⟨a0, a1, a2⟩ := Box.c HS.out.2.2.1
            obtain ⟨b0, b1, b2⟩ := Box.c HS.out.2.2.2.1
            obtain ⟨c0, c1, c2⟩ := Box.c HS.out.2.2.2.2.1
            obtain ⟨e0, e1, e2⟩ := Box.c HS.out.2.2.2.2.2
            go_wp2
            go_roundw
            case rel =>
              first | exact ⟨X + 1, _, _, rfl, rfl, by omega, by go_num, HS.out.1, HS.out.2.1, HS.out.2.2.1, HS.out.2.2.2.1, HS.out.2.2.2.2.1, HS.out.2.2.2.2.2, TW.out⟩ | ((repeat apply Exists.intro); exact ⟨⟨X + 1, _, _, rfl, rfl, by omega, by go_num, HS.out.1, HS.out.2.1, HS.out.2.2.1, HS.out.2.2.2.1, HS.out.2.2.2.2.1, HS.out.2.2.2.2.2, TW.out⟩, rfl⟩)
            case measure => simp [intOf]; omega
      · obtain rfl : K = X := by omega
        have eL : lo N K = ints (from' 0 N) := by unfold lo; rw [show min K N = N by omega]
        have eR : hi N K = ints (from' N M) := by unfold hi; rw [show K - N = M by omega]
        have oL := TW.out.1
        have oR := TW.out.2.1
        rw [eL] at oL
        rw [eR] at oR
        obtain ⟨aL, cL, hL⟩ := oL.reads.len
        obtain ⟨aR, cR, hR⟩ := oR.reads.len
        rw [ints_len, from_len] at hL hR
        subst hL hR
        have FL_90 := Lib.hid oL
        have FR_90 := Lib.hid oR
        have HCL := Lib.hid (own_cap oL hn1)
        have HCR := Lib.hid (own_cap oR hm1)
        have AW_90 := Lib.hid HS.out.1
        have FA_90 := Lib.hid HS.out.2.2.1
        have FB_90 := Lib.hid HS.out.2.2.2.1
        have FC_90 := Lib.hid HS.out.2.2.2.2.1
        have FE_90 := Lib.hid HS.out.2.2.2.2.2
        clear HS TW oL oR eL eR a0 a1 a2 b0 b1 b2 c0 c1 c2 e0 e1 e2 hXK
        obtain ⟨c0, c1, c2⟩ := Box.c FC_90.out
        go_wp2_with fail
        clear c0 c1 c2
        refine (part_at HF.out.v1 (by omega) HF.out.z1.1 HF.out.z1.2.1 hn1 (by omega) HF.out.ls HF.out.lr _ _ _ (OwnI.reads FL_90.out) HCL.out).mono ?_
        rintro e w_91 ⟨rfl, hb⟩
        have hbn := hb
        have FA_91 := Lib.hid (FA_90.out.below hbn FA_90.out.lt)
        have FB_91 := Lib.hid (FB_90.out.below hbn FB_90.out.lt)
        have FC_91 := Lib.hid (FC_90.out.below hbn FC_90.out.lt)
        have FE_91 := Lib.hid (FE_90.out.below hbn FE_90.out.lt)
        have FL_91 := Lib.hid (FL_90.out.below hbn (Nat.le_refl _))
        have FR_91 := Lib.hid (FR_90.out.below hbn (Nat.le_refl _))
        have AW_91 : Hid (Below w.heap.size w w_91) := AW_90.out.trans (hbn.mono AW_90.out.size)
        clear hbn AW_90 FA_90 FB_90 FC_90 FE_90 FL_90 FR_90
        clear hb
        have Fp_91 : Hid (Box 24 (w_91.alloc (.cells #[.int .i64 N, .string s, .string r] 24)) (w_91.heap.size) N s r) := Box.new _ w_91 (w_91.heap.size) (by simp) _ _ _
        obtain ⟨c0, c1, c2⟩ := Box.c (FC_91.out.below ((Below.refl w_91.heap.size w_91).alloc (by simp) (.cells #[.int .i64 N, .string s, .string r] 24)) FC_91.out.lt)
        obtain ⟨c_0, c_1, c_2⟩ := Box.c FC_91.out
        have clt := FC_91.out.lt
        go_wp2_with fail
        clear c0 c1 c2 c_0 c_1 c_2 clt
        refine (part_at HF.out.v1 (by omega) HF.out.z1.1 HF.out.z1.2.1 hm1 (by omega) HF.out.rs HF.out.rr _ _ _ (OwnI.reads (FR_91.out.below ((Below.refl w_91.heap.size w_91).alloc (by simp) (.cells #[.int .i64 N, .string s, .string r] 24)) (Nat.le_refl _))) HCR.out).mono ?_
        rintro e w_92 ⟨rfl, hb⟩
        have hbn : Below w_91.heap.size w_91 w_92 := ((Below.refl w_91.heap.size w_91).alloc (by simp) (.cells #[.int .i64 N, .string s, .string r] 24)).trans (hb.mono (show w_91.heap.size ≤ _ by simp))
        have FA_92 := Lib.hid (FA_91.out.below hbn FA_91.out.lt)
        have FB_92 := Lib.hid (FB_91.out.below hbn FB_91.out.lt)
        have FC_92 := Lib.hid (FC_91.out.below hbn FC_91.out.lt)
        have FE_92 := Lib.hid (FE_91.out.below hbn FE_91.out.lt)
        have FL_92 := Lib.hid (FL_91.out.below hbn (Nat.le_refl _))
        have FR_92 := Lib.hid (FR_91.out.below hbn (Nat.le_refl _))
        have Fp_92 := Lib.hid (Fp_91.out.below hb (by simp))
        have AW_92 : Hid (Below w.heap.size w w_92) := AW_91.out.trans (hbn.mono AW_91.out.size)
        clear hbn AW_91 FA_91 FB_91 FC_91 FE_91 FL_91 FR_91 Fp_91
        clear hb
        have Fq_92 : Hid (Box 24 (w_92.alloc (.cells #[.int .i64 M, .string t, .string q] 24)) (w_92.heap.size) M t q) := Box.new _ w_92 (w_92.heap.size) (by simp) _ _ _
        obtain ⟨c0, c1, c2⟩ := Box.c (FE_92.out.below ((Below.refl w_92.heap.size w_92).alloc (by simp) (.cells #[.int .i64 M, .string t, .string q] 24)) FE_92.out.lt)
        obtain ⟨c_0, c_1, c_2⟩ := Box.c FE_92.out
        have clt := FE_92.out.lt
        go_wp2_with fail
        clear c0 c1 c2 c_0 c_1 c_2 clt
        refine (part_at HF.out.v2 (by omega) HF.out.z1.1 HF.out.z1.2.2.1 hn1 (by omega) HF.out.ls HF.out.lr2 _ _ _ (OwnI.reads (FL_92.out.below ((Below.refl w_92.heap.size w_92).alloc (by simp) (.cells #[.int .i64 M, .string t, .string q] 24)) (Nat.le_refl _))) HCL.out).mono ?_
        rintro e w_93 ⟨rfl, hb⟩
        have hbn : Below w_92.heap.size w_92 w_93 := ((Below.refl w_92.heap.size w_92).alloc (by simp) (.cells #[.int .i64 M, .string t, .string q] 24)).trans (hb.mono (show w_92.heap.size ≤ _ by simp))
        have FA_93 := Lib.hid (FA_92.out.below hbn FA_92.out.lt)
        have FB_93 := Lib.hid (FB_92.out.below hbn FB_92.out.lt)
        have FC_93 := Lib.hid (FC_92.out.below hbn FC_92.out.lt)
        have FE_93 := Lib.hid (FE_92.out.below hbn FE_92.out.lt)
        have FL_93 := Lib.hid (FL_92.out.below hbn (Nat.le_refl _))
        have FR_93 := Lib.hid (FR_92.out.below hbn (Nat.le_refl _))
        have Fp_93 := Lib.hid (Fp_92.out.below hbn Fp_92.out.lt)
        have Fq_93 := Lib.hid (Fq_92.out.below hb (by simp))
        have AW_93 : Hid (Below w.heap.size w w_93) := AW_92.out.trans (hbn.mono AW_92.out.size)
        clear hbn AW_92 FA_92 FB_92 FC_92 FE_92 FL_92 FR_92 Fp_92 Fq_92
        clear hb
        have Fu_93 : Hid (Box 24 (w_93.alloc (.cells #[.int .i64 N, .string s, .string r] 24)) (w_93.heap.size) N s r) := Box.new _ w_93 (w_93.heap.size) (by simp) _ _ _
        obtain ⟨c0, c1, c2⟩ := Box.c (FE_93.out.below ((Below.refl w_93.heap.size w_93).alloc (by simp) (.cells #[.int .i64 N, .string s, .string r] 24)) FE_93.out.lt)
        obtain ⟨c_0, c_1, c_2⟩ := Box.c FE_93.out
        have clt := FE_93.out.lt
        go_wp2_with fail
        clear c0 c1 c2 c_0 c_1 c_2 clt
        refine (part_at HF.out.v2 (by omega) HF.out.z1.1 HF.out.z1.2.2.1 hm1 (by omega) HF.out.rs HF.out.rr2 _ _ _ (OwnI.reads (FR_93.out.below ((Below.refl w_93.heap.size w_93).alloc (by simp) (.cells #[.int .i64 N, .string s, .string r] 24)) (Nat.le_refl _))) HCR.out).mono ?_
        rintro e w_94 ⟨rfl, hb⟩
        have hbn : Below w_93.heap.size w_93 w_94 := ((Below.refl w_93.heap.size w_93).alloc (by simp) (.cells #[.int .i64 N, .string s, .string r] 24)).trans (hb.mono (show w_93.heap.size ≤ _ by simp))
        have FA_94 := Lib.hid (FA_93.out.below hbn FA_93.out.lt)
        have FB_94 := Lib.hid (FB_93.out.below hbn FB_93.out.lt)
        have FC_94 := Lib.hid (FC_93.out.below hbn FC_93.out.lt)
        have FE_94 := Lib.hid (FE_93.out.below hbn FE_93.out.lt)
        have FL_94 := Lib.hid (FL_93.out.below hbn (Nat.le_refl _))
        have FR_94 := Lib.hid (FR_93.out.below hbn (Nat.le_refl _))
        have Fp_94 := Lib.hid (Fp_93.out.below hbn Fp_93.out.lt)
        have Fq_94 := Lib.hid (Fq_93.out.below hbn Fq_93.out.lt)
        have Fu_94 := Lib.hid (Fu_93.out.below hb (by simp))
        have AW_94 : Hid (Below w.heap.size w w_94) := AW_93.out.trans (hbn.mono AW_93.out.size)
        clear hbn AW_93 FA_93 FB_93 FC_93 FE_93 FL_93 FR_93 Fp_93 Fq_93 Fu_93
        clear hb
        have Fv_94 : Hid (Box 24 (w_94.alloc (.cells #[.int .i64 M, .string t, .string q] 24)) (w_94.heap.size) M t q) := Box.new _ w_94 (w_94.heap.size) (by simp) _ _ _
        obtain ⟨b0, b1, b2⟩ := Box.c (FB_94.out.below ((Below.refl w_94.heap.size w_94).alloc (by simp) (.cells #[.int .i64 M, .string t, .string q] 24)) FB_94.out.lt)
        obtain ⟨b_0, b_1, b_2⟩ := Box.c FB_94.out
        have blt := FB_94.out.lt
        obtain ⟨a0, a1, a2⟩ := Box.c (FA_94.out.below ((Below.refl w_94.heap.size w_94).alloc (by simp) (.cells #[.int .i64 M, .string t, .string q] 24)) FA_94.out.lt)
        obtain ⟨a_0, a_1, a_2⟩ := Box.c FA_94.out
        have alt := FA_94.out.lt
        go_wp2_with fail
        clear  b0 b1 b2 b_0 b_1 b_2 blt a0 a1 a2 a_0 a_1 a_2 alt
        refine ((HC5).out _).mono ?_
        rintro e w_95 ⟨rfl, hb⟩
        have hbn : Below w_94.heap.size w_94 w_95 := ((Below.refl w_94.heap.size w_94).alloc (by simp) (.cells #[.int .i64 M, .string t, .string q] 24)).trans (hb.mono (show w_94.heap.size ≤ _ by simp))
        have FA_95 := Lib.hid (FA_94.out.below hbn FA_94.out.lt)
        have FB_95 := Lib.hid (FB_94.out.below hbn FB_94.out.lt)
        have FC_95 := Lib.hid (FC_94.out.below hbn FC_94.out.lt)
        have FE_95 := Lib.hid (FE_94.out.below hbn FE_94.out.lt)
        have FL_95 := Lib.hid (FL_94.out.below hbn (Nat.le_refl _))
        have FR_95 := Lib.hid (FR_94.out.below hbn (Nat.le_refl _))
        have Fp_95 := Lib.hid (Fp_94.out.below hbn Fp_94.out.lt)
        have Fq_95 := Lib.hid (Fq_94.out.below hbn Fq_94.out.lt)
        have Fu_95 := Lib.hid (Fu_94.out.below hbn Fu_94.out.lt)
        have Fv_95 := Lib.hid (Fv_94.out.below hb (by simp))
        have AW_95 : Hid (Below w.heap.size w w_95) := AW_94.out.trans (hbn.mono AW_94.out.size)
        clear hbn AW_94 FA_94 FB_94 FC_94 FE_94 FL_94 FR_94 Fp_94 Fq_94 Fu_94 Fv_94
        clear hb
        have Fy_95 : Hid (Box 24 (w_95.alloc (.cells #[.int .i64 K, .string S3, .string R3] 24)) (w_95.heap.size) K S3 R3) := Box.new _ w_95 (w_95.heap.size) (by simp) _ _ _
        obtain ⟨c0, c1, c2⟩ := Box.c (FC_95.out.below ((Below.refl w_95.heap.size w_95).alloc (by simp) (.cells #[.int .i64 K, .string S3, .string R3] 24)) FC_95.out.lt)
        obtain ⟨c_0, c_1, c_2⟩ := Box.c FC_95.out
        have clt := FC_95.out.lt
        obtain ⟨y0, y1, y2⟩ := Box.c Fy_95.out
        go_wp2_with fail
        clear  c0 c1 c2 c_0 c_1 c_2 clt y0 y1 y2
        refine (shape.implSameShape_any K S1 R1 K S3 R3 _ (by have := HF.out.z1; omega) (by have := HF.out.z1; omega) (by have := HF.out.z1; omega) (by have := HF.out.z1; omega)).mono ?_
        rintro e w_96 ⟨vS, rfl, hb⟩
        have hbn : Below w_95.heap.size w_95 w_96 := ((Below.refl w_95.heap.size w_95).alloc (by simp) (.cells #[.int .i64 K, .string S3, .string R3] 24)).trans (hb.mono (show w_95.heap.size ≤ _ by simp))
        have FA_96 := Lib.hid (FA_95.out.below hbn FA_95.out.lt)
        have FB_96 := Lib.hid (FB_95.out.below hbn FB_95.out.lt)
        have FC_96 := Lib.hid (FC_95.out.below hbn FC_95.out.lt)
        have FE_96 := Lib.hid (FE_95.out.below hbn FE_95.out.lt)
        have FL_96 := Lib.hid (FL_95.out.below hbn (Nat.le_refl _))
        have FR_96 := Lib.hid (FR_95.out.below hbn (Nat.le_refl _))
        have Fp_96 := Lib.hid (Fp_95.out.below hbn Fp_95.out.lt)
        have Fq_96 := Lib.hid (Fq_95.out.below hbn Fq_95.out.lt)
        have Fu_96 := Lib.hid (Fu_95.out.below hbn Fu_95.out.lt)
        have Fv_96 := Lib.hid (Fv_95.out.below hbn Fv_95.out.lt)
        have Fy_96 := Lib.hid (Fy_95.out.below hb (by simp))
        have AW_96 : Hid (Below w.heap.size w w_96) := AW_95.out.trans (hbn.mono AW_95.out.size)
        clear hbn AW_95 FA_95 FB_95 FC_95 FE_95 FL_95 FR_95 Fp_95 Fq_95 Fu_95 Fv_95 Fy_95
        rw [HF.out.sh]
        clear hb
        obtain ⟨a0, a1, a2⟩ := Box.c FA_96.out
        obtain ⟨b0, b1, b2⟩ := Box.c FB_96.out
        obtain ⟨p0, p1, p2⟩ := Box.c Fp_96.out
        obtain ⟨q0, q1, q2⟩ := Box.c Fq_96.out
        obtain ⟨u0, u1, u2⟩ := Box.c Fu_96.out
        obtain ⟨v0, v1, v2⟩ := Box.c Fv_96.out
        have q1 := eq_struct N s r
        have q2 := eq_struct M t q
        go_wp2
        go_ret
        exact ⟨rfl, AW_96.out⟩
end Go.Proofs.YtefneihlgclkbaaDoor.fnDsumW
