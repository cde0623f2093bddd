/- FnCopies: the walk. -/
import Derived.Test.YtefneihlgclkbaaDoorDrawK
import Derived.Test.YtefneihlgclkbaaDoorSymN
import Derived.Test.YtefneihlgclkbaaDoorCopL
import Derived.Test.YtefneihlgclkbaaDoorCopies
import Derived.Test.YtefneihlgclkbaaDoorPieces
import Derived.Test.YtefneihlgclkbaaDoorAssoc
import Derived.Test.YtefneihlgclkbaaDoorRow
namespace Go.Proofs.YtefneihlgclkbaaDoor.fnCopiesW
set_option linter.unusedVariables false
set_option linter.unusedSimpArgs false
open Go.ChangeShapes Go.WideShapes Go.ChangeAt Go.RowKit
open Go.Proofs.YtefneihlgclkbaaDoor.flow Go.Proofs.YtefneihlgclkbaaDoor.lib Go.Proofs.YtefneihlgclkbaaDoor.st Go.Proofs.YtefneihlgclkbaaDoor.draw Go.Proofs.YtefneihlgclkbaaDoor.base Go.Proofs.YtefneihlgclkbaaDoor.make Go.Proofs.YtefneihlgclkbaaDoor.prod Go.Proofs.YtefneihlgclkbaaDoor.val Go.Proofs.YtefneihlgclkbaaDoor.assoc Go.Proofs.YtefneihlgclkbaaDoor.sum Go.Proofs.YtefneihlgclkbaaDoor.fits Go.Proofs.YtefneihlgclkbaaDoor.copies Go.Proofs.YtefneihlgclkbaaDoor.copl Go.Proofs.YtefneihlgclkbaaDoor.cls Go.Proofs.YtefneihlgclkbaaDoor.pieces
/-- bytes that came in may be drawn from -/
theorem byt_of_row {w : World} {a : Option Addr} {n c : Nat} {zs : List Int} (h : row.IsRow .u8 w a n c zs) : Byt w w.heap.size a n ∧ n ≤ c ∧ c ≤ 9223372036854775807 := by
  rcases h with ⟨rfl, rfl, rfl, rfl⟩ | ⟨x, rfl, hl, hm, hz, hcell, hwf⟩
  · exact ⟨.inl rfl, Nat.le_refl _, by omega⟩
  · refine ⟨?_, hl, hm⟩
    by_cases h0 : n = 0
    · exact .inl h0
    · obtain ⟨b, off, spot⟩ := x
      have hc := hcell 0 (by omega)
      have hspot : spot = none := by simpa [Addr.add] using World.cell?_spot hc
      subst hspot
      have hlt := World.block_lt_of_cell? w _ hc
      refine .inr ⟨b, off, rfl, by simpa [Addr.add] using hlt, fun i hi => ?_⟩
      have hci := hcell i (by omega)
      have hw := hwf (zs.getD i 0) (by rw [List.getD_eq_getElem?_getD, List.getElem?_eq_getElem (by omega)]; exact List.getElem_mem _)
      have hb : 0 ≤ zs.getD i 0 ∧ zs.getD i 0 ≤ 255 := by
        generalize zs.getD i 0 = z at hw ⊢
        simp only [Lit.wf, IntKind.min, IntKind.max, IntKind.signed, IntKind.bits, Bool.and_eq_true, decide_eq_true_eq] at hw
        simp at hw
        omega
      refine ⟨(zs.getD i 0).toNat, by omega, ?_⟩
      rw [show (⟨b, off, none⟩ : Addr).add i = ⟨b, off + i, none⟩ from by simp only [Addr.add]; split <;> simp [*]] at hci
      rw [hci, show (((zs.getD i 0).toNat : Nat) : Int) = zs.getD i 0 from by omega]

theorem neq_struct (n : Int) (s r : ByteArray) (w : World) : (binOp .neq 24 (.agg #[.int .i64 n, .string s, .string r]) (.agg #[.int .i64 n, .string s, .string r])).run Tryd.prog w = .ok (.bool false) w := by
  have u3 := Tryd.underlying3
  have a3 := Tryd.isAgg3
  have z3 := Tryd.sizeOf3
  have u4 := Tryd.underlying9
  have a4 := Tryd.isAgg9
  have z4 := Tryd.sizeOf9
  have hS : Tryd.prog.underlying 24 = some (.struct (Tryd.prog.fieldsOf 24)) := by kernel_rfl
  have hp : Tryd.prog.stoodInHeld 24 = false := by kernel_rfl
  rw [run_neq_struct, show (10000 : Nat) = 9999 + 1 from rfl, run_equalIn_agg w 9999 24 _ _ hS hp]
  simp only [Program.fieldsOf, Tryd.underlying24]
  go_simp
theorem int_spot {w : World} {ao : Option Addr} {n cap : Nat} {l : List Int} (h : Reads w (.slice ao n cap) l) (hn : n = l.length) (h1 : 1 ≤ n) :
    ∃ b off, ao = some ⟨b, off, none⟩ ∧ b < w.heap.size ∧ ∀ i, i < n → w.cell? ⟨b, off + i, none⟩ = some (.int .i64 (l.getD i 0)) := by
  obtain ⟨ao', c', hv', hc', _⟩ := h
  simp only [Value.slice.injEq] at hv'
  rcases hc' with h | ⟨b, off, he, hc⟩
  · rw [h] at hn; simp at hn; omega
  · exact ⟨b, off, hv'.1.trans he, World.block_lt_of_cell? w _ (hc 0 (by omega)), fun i hi => hc i (by omega)⟩

theorem reads_cell {w : World} {b off n cap : Nat} {l : List Int} (h : Reads w (.slice (some ⟨b, off, none⟩) n cap) l) (hn : n = l.length) {i : Nat} (hi : i < n) : w.cell? ⟨b, off + i, none⟩ = some (.int .i64 (l.getD i 0)) := by
  obtain ⟨ao, c', hv, hc, _⟩ := h
  simp only [Value.slice.injEq] at hv
  rcases hc with h | ⟨b', off', ha, hc⟩
  · rw [h] at hn; simp at hn; omega
  · have e := hv.1.trans ha
    simp only [Option.some.injEq, Addr.mk.injEq] at e
    obtain ⟨rfl, rfl, -⟩ := e
    exact hc i (by omega)
/-- what is known of CopiesOf at some numbers -/
def CP (F : FuncId) (n : Int) (s r : ByteArray) (x : Int) (k : Int) (y z : ByteArray) (b : Bool) : Prop :=
  ∀ W : World, Calls Tryd.prog F #[.agg #[.int .i64 n, .string s, .string r], .int .i64 x] W fun e w' => e = .returned (.tuple #[.agg #[.int .i64 k, .string y, .string z], .bool b]) ∧ Below W.heap.size W w'
theorem cp_i {n : Int} {s r : ByteArray} {x : Int} (hs : s.size ≤ 100) (hr : r.size ≤ 100) : CP 24 n s r x (cN n s r x) (cS n s r x) (cR n s r x) (okC n s r x) := fun W => implCopies_any n s r x W (by omega) (by omega)
theorem cp_s {n : Int} {s r : ByteArray} {x : Int} (hn : (Lit.int .i64 n).wf = true) (hs : s.size ≤ 100) (hr : r.size ≤ 100) : CP 25 n s r x (cN n s r x) (cS n s r x) (cR n s r x) (okC n s r x) := fun W => specCopies_any n s r x W hn (by omega) (by omega)
/-- what the law asks -/
structure Fact (N c K : Nat) (s r S R : ByteArray) (P Q : List Int) : Prop where
  n1 : 1 ≤ N
  n8 : N ≤ 8
  c1 : 1 ≤ c
  c8 : c ≤ 8
  k1 : 1 ≤ K
  k8 : K ≤ 8
  k : K = c * N
  z : s.size = N ∧ r.size = N * N ∧ S.size = K ∧ R.size = K * K ∧ S.size ≤ 100 ∧ R.size ≤ 100
  vs : validB N s r = true
  vc : validB K S R = true
  eP : P = piecesR N s r
  eQ : Q = piecesR K S R
  pl : P.length = N
  ql : Q.length = K
  pb : ∀ i, i < N → 0 ≤ P.getD i 0 ∧ P.getD i 0 < 8
  most : ∀ mx : Int, 0 ≤ mx → (∀ i, i < N → P.getD i 0 + 1 ≤ mx) → 0 ≤ Q.getD (K - 1) 0 ∧ Q.getD (K - 1) 0 < mx * c
  one : c = 1 → K = N ∧ S = s ∧ R = r
  more : 2 ≤ c → ∃ (D : Nat) (S2 R2 : ByteArray), CP 24 N s r ((c : Int) - 1) D S2 R2 true ∧ SC 18 N s r D S2 R2 K S R true
  sym : symN N s r ∣ symN K S R
theorem fact {n : Int} {s r : ByteArray} {x : Int} (hs : s.size ≤ 100) (hr : r.size ≤ 100) (h : okC n s r x = true) : ∃ N c K : Nat, n = N ∧ x = c ∧ ∃ S R P Q, cN n s r x = K ∧ cS n s r x = S ∧ cR n s r x = R ∧ Fact N c K s r S R P Q := by
  have h' := h
  unfold okC at h'
  rw [Bool.and_eq_true, decide_eq_true_iff] at h'
  obtain ⟨hv, h1, h8, hk8⟩ := h'
  obtain ⟨N, rfl, hN1, hN8, hsN, hrN⟩ := prod.valid_size hv
  obtain ⟨C, rfl⟩ : ∃ C : Nat, x = ((C + 1 : Nat) : Int) := ⟨x.toNat - 1, by omega⟩
  obtain ⟨e1, e2, e3⟩ := c_yes h
  have hK8 : cz N C ≤ 8 := by
    rw [okC_iff hv (by omega)] at h; exact of_decide_eq_true h
  have hcz := cz_mul N C
  have hK1 : 1 ≤ cz N C := by rw [hcz]; exact Nat.mul_le_mul hN1 (by omega : 1 ≤ C + 1)
  obtain ⟨hS, hR⟩ := cop_size hv hK8
  have hvc := cop_valid hv C hK8
  have hP : piecesR N s r = (clsOf (conn N r) N).1 := by unfold piecesR; rw [if_pos hv]; rfl
  have hQ : piecesR (cz N C : Nat) (copS s C) (copR N r C) = (clsOf (conn (cz N C) (copR N r C)) (cz N C)).1 := by unfold piecesR; rw [if_pos hvc]; rfl
  refine ⟨N, C + 1, cz N C, rfl, rfl, copS s C, copR N r C, _, _, e1, e2, e3, ⟨hN1, hN8, by omega, by omega, hK1, hK8, by rw [hcz, Nat.mul_comm], ⟨hsN, hrN, hS, hR, by omega, ?_⟩, hv, hvc, rfl, rfl, ?_, ?_, ?_, ?_, ?_, ?_, ?_⟩⟩
  · rw [hR]
    have : cz N C * cz N C ≤ 8 * 8 := Nat.mul_le_mul hK8 hK8
    omega
  · rw [hP]; exact (cls_len _ _).1
  · rw [hQ]; exact (cls_len _ _).1
  · intro i hi
    rw [hP]
    have a := cls_bounds (conn N r) N i hi
    have b := (cls_len (conn N r) N).2
    omega
  · intro mx h0 hm
    rw [hQ]
    rw [hP] at hm
    have a := cls_bounds (conn (cz N C) (copR N r C)) (cz N C) (cz N C - 1) (by omega)
    have b := pieces_most h0 hm
    have c := pieces_le (C := C) (r := r) hsN C (Nat.le_refl _) N (Nat.le_refl _)
    rw [show C * N + N = cz N C by rw [hcz, Nat.mul_succ, Nat.mul_comm]] at c
    have d : ((clsOf (conn (cz N C) (copR N r C)) (cz N C)).2 : Int) ≤ mx * ((C + 1 : Nat) : Int) := by
      have e : (C : Int) * ((clsOf (conn N r) N).2 : Int) ≤ C * mx := Int.mul_le_mul_of_nonneg_left b (by omega)
      have f : (((C * (clsOf (conn N r) N).2 + (clsOf (conn N r) N).2 : Nat)) : Int) = (C : Int) * ((clsOf (conn N r) N).2 : Int) + ((clsOf (conn N r) N).2 : Int) := by push_cast; rfl
      have g : mx * ((C + 1 : Nat) : Int) = C * mx + mx := by push_cast; rw [Int.mul_add, Int.mul_one, Int.mul_comm]
      omega
    omega
  · intro hc
    obtain rfl : C = 0 := by omega
    exact ⟨rfl, rfl, rfl⟩
  · intro hc
    obtain ⟨D, rfl⟩ : ∃ D, C = D + 1 := ⟨C - 1, by omega⟩
    have hD8 : cz N D ≤ 8 := by have : cz N (D + 1) = cz N D + N := rfl; omega
    have hokD : okC N s r ((D + 1 : Nat) : Int) = true := by rw [okC_iff hv (by omega)]; exact decide_eq_true hD8
    obtain ⟨d1, d2, d3⟩ := c_yes hokD
    have hcp := cp_i (n := N) (s := s) (r := r) (x := ((D + 1 : Nat) : Int)) hs hr
    rw [d1, d2, d3, hokD] at hcp
    obtain ⟨hSD, hRD⟩ := cop_size hv hD8
    have hvd := cop_valid hv D hD8
    have hR100 : (copR N r D).size ≤ 200 := by
      rw [hRD]
      have : cz N D * cz N D ≤ 8 * 8 := Nat.mul_le_mul hD8 hD8
      omega
    have hokS : okS N s r (cz N D : Nat) (copS s D) (copR N r D) = true := by
      unfold okS
      rw [hv, hvd, decide_eq_true (by have : cz N (D + 1) = cz N D + N := rfl; omega)]; rfl
    have hsc := sc_dis (n := N) (s := s) (r := r) (m := (cz N D : Nat)) (t := copS s D) (q := copR N r D) (by omega) (by omega) (by omega) hR100
    obtain ⟨s1, s2, s3⟩ := s_yes (K := cz N (D + 1)) false (by have : cz N (D + 1) = cz N D + N := rfl; omega) hokS
    rw [s1, s2, s3, hokS, copS_turn, cop_rel hrN] at hsc
    refine ⟨cz N D, copS s D, copR N r D, ?_, hsc⟩
    have e : (((D + 1 + 1 : Nat) : Int) - 1) = ((D + 1 : Nat) : Int) := by omega
    rw [e]; exact hcp
  · exact sym_dvd hsN

set_option maxHeartbeats 40000000 in
set_option maxRecDepth 100000 in
theorem walk (a0 : Option Addr) (n0 c0 : Nat) (l0 : List Int) (w : World) (h0 : row.IsRow .u8 w a0 n0 c0 l0) :
    Calls Tryd.prog 5 #[.slice a0 n0 c0] w fun e w' => e = .returned (.bool true) ∧ Below w.heap.size w w' := by
  obtain ⟨by0, nc0, cm0⟩ := byt_of_row h0
  have BY0 := Lib.hid by0
  clear by0
  clear h0
  by_cases hg0 : 1048576 < n0
  · go_enter Tryd.func5, Tryd.ntmps5
    go_wp2
    go_ret
    exact ⟨rfl, Below.refl _ _⟩
  go_enter Tryd.func5, Tryd.ntmps5
  have AW_0 : Hid (Below w.heap.size w w) := Below.refl _ _
  go_wp2_with fail
  refine (drawCopies_any a0 n0 c0 _ BY0.out nc0 cm0).mono ?_
  rintro e w_1 ⟨n, s, r, x, rfl, hnw, hs, hr, hxw, hb⟩
  have hbn := hb
  have AW_1 : Hid (Below w.heap.size w w_1) := AW_0.out.trans (hbn.mono AW_0.out.size)
  clear hbn AW_0 
  have FA_1 : Hid (Box 24 (w_1.alloc (.cells #[.int .i64 n, .string s, .string r] 24)) (w_1.heap.size) n s r) := Box.new _ w_1 (w_1.heap.size) (by simp) _ _ _
  clear hb
  cases hk : okC n s r x with
  | false =>
    have HC1 : Hid (CP 24 n s r x (cN n s r x) (cS n s r x) (cR n s r x) false) := by rw [← hk]; exact cp_i hs hr
    have HC2 : Hid (CP 25 n s r x (cN n s r x) (cS n s r x) (cR n s r x) false) := by rw [← hk]; exact cp_s hnw hs hr
    obtain ⟨u, hu⟩ : ∃ u, u = cN n s r x := ⟨_, rfl⟩
    obtain ⟨y, hy⟩ : ∃ u, u = cS n s r x := ⟨_, rfl⟩
    obtain ⟨z, hz⟩ : ∃ u, u = cR n s r x := ⟨_, rfl⟩
    rw [← hu, ← hy, ← hz] at HC1 HC2
    clear hu hy hz hk
    obtain ⟨a0, a1, a2⟩ := Box.c FA_1.out
    go_wp2_with fail
    clear  a0 a1 a2
    refine ((HC1).out _).mono ?_
    rintro e w_2 ⟨rfl, hb⟩
    have hbn : Below w_1.heap.size w_1 w_2 := ((Below.refl w_1.heap.size w_1).alloc (by simp) (.cells #[.int .i64 n, .string s, .string r] 24)).trans (hb.mono (show w_1.heap.size ≤ _ by simp))
    have FA_2 := Lib.hid (FA_1.out.below hb (by simp))
    have AW_2 : Hid (Below w.heap.size w w_2) := AW_1.out.trans (hbn.mono AW_1.out.size)
    clear hbn AW_1 FA_1
    clear hb
    have FC_2 : Hid (Box 24 (w_2.alloc (.cells #[.int .i64 u, .string y, .string z] 24)) (w_2.heap.size) u y z) := Box.new _ w_2 (w_2.heap.size) (by simp) _ _ _
    obtain ⟨a0, a1, a2⟩ := Box.c (FA_2.out.below ((Below.refl w_2.heap.size w_2).alloc (by simp) (.cells #[.int .i64 u, .string y, .string z] 24)) FA_2.out.lt)
    obtain ⟨a_0, a_1, a_2⟩ := Box.c FA_2.out
    have alt := FA_2.out.lt
    go_wp2_with fail
    clear  a0 a1 a2 a_0 a_1 a_2 alt
    refine ((HC2).out _).mono ?_
    rintro e w_3 ⟨rfl, hb⟩
    have hbn : Below w_2.heap.size w_2 w_3 := ((Below.refl w_2.heap.size w_2).alloc (by simp) (.cells #[.int .i64 u, .string y, .string z] 24)).trans (hb.mono (show w_2.heap.size ≤ _ by simp))
    have FA_3 := Lib.hid (FA_2.out.below hbn FA_2.out.lt)
    have FC_3 := Lib.hid (FC_2.out.below hb (by simp))
    have AW_3 : Hid (Below w.heap.size w w_3) := AW_2.out.trans (hbn.mono AW_2.out.size)
    clear hbn AW_2 FA_2 FC_2
    clear hb
    have FD_3 : Hid (Box 24 (w_3.alloc (.cells #[.int .i64 u, .string y, .string z] 24)) (w_3.heap.size) u y z) := Box.new _ w_3 (w_3.heap.size) (by simp) _ _ _
    obtain ⟨c0, c1, c2⟩ := Box.c (FC_3.out.below ((Below.refl w_3.heap.size w_3).alloc (by simp) (.cells #[.int .i64 u, .string y, .string z] 24)) FC_3.out.lt)
    obtain ⟨c_0, c_1, c_2⟩ := Box.c FC_3.out
    have clt := FC_3.out.lt
    obtain ⟨d0, d1, d2⟩ := Box.c FD_3.out
    have q1 := neq_struct u y z
    have q2 := eq_struct u y z
    go_wp2
    go_ret
    exact ⟨rfl, AW_3.out.trans (((Below.refl w_3.heap.size w_3).alloc (by simp) (.cells #[.int .i64 u, .string y, .string z] 24)).mono AW_3.out.size)⟩
  | true =>
    have hc1 := cp_i (n := n) (s := s) (r := r) (x := x) hs hr
    have hc2 := cp_s (n := n) (s := s) (r := r) (x := x) hnw hs hr
    obtain ⟨N, c, K, rfl, rfl, S, R, P, Q, e1, e2, e3, hf⟩ := fact hs hr hk
    rw [e1, e2, e3, hk] at hc1 hc2
    have HC1 := Lib.hid hc1
    have HC2 := Lib.hid hc2
    have HF := Lib.hid hf
    have hk8 := hf.k8
    have hk1 := hf.k1
    have hn1 := hf.n1
    have hn8 := hf.n8
    have hcc1 := hf.c1
    have hcc8 := hf.c8
    clear hc1 hc2 hf e1 e2 e3 hk hnw hxw
    obtain ⟨a0, a1, a2⟩ := Box.c FA_1.out
    go_wp2_with fail
    clear  a0 a1 a2
    refine ((HC1).out _).mono ?_
    rintro e w_2 ⟨rfl, hb⟩
    have hbn : Below w_1.heap.size w_1 w_2 := ((Below.refl w_1.heap.size w_1).alloc (by simp) (.cells #[.int .i64 N, .string s, .string r] 24)).trans (hb.mono (show w_1.heap.size ≤ _ by simp))
    have FA_2 := Lib.hid (FA_1.out.below hb (by simp))
    have AW_2 : Hid (Below w.heap.size w w_2) := AW_1.out.trans (hbn.mono AW_1.out.size)
    clear hbn AW_1 FA_1
    clear hb
    have FC_2 : Hid (Box 24 (w_2.alloc (.cells #[.int .i64 K, .string S, .string R] 24)) (w_2.heap.size) K S R) := Box.new _ w_2 (w_2.heap.size) (by simp) _ _ _
    obtain ⟨a0, a1, a2⟩ := Box.c (FA_2.out.below ((Below.refl w_2.heap.size w_2).alloc (by simp) (.cells #[.int .i64 K, .string S, .string R] 24)) FA_2.out.lt)
    obtain ⟨a_0, a_1, a_2⟩ := Box.c FA_2.out
    have alt := FA_2.out.lt
    go_wp2_with fail
    clear  a0 a1 a2 a_0 a_1 a_2 alt
    refine ((HC2).out _).mono ?_
    rintro e w_3 ⟨rfl, hb⟩
    have hbn : Below w_2.heap.size w_2 w_3 := ((Below.refl w_2.heap.size w_2).alloc (by simp) (.cells #[.int .i64 K, .string S, .string R] 24)).trans (hb.mono (show w_2.heap.size ≤ _ by simp))
    have FA_3 := Lib.hid (FA_2.out.below hbn FA_2.out.lt)
    have FC_3 := Lib.hid (FC_2.out.below hb (by simp))
    have AW_3 : Hid (Below w.heap.size w w_3) := AW_2.out.trans (hbn.mono AW_2.out.size)
    clear hbn AW_2 FA_2 FC_2
    clear hb
    have FD_3 : Hid (Box 24 (w_3.alloc (.cells #[.int .i64 K, .string S, .string R] 24)) (w_3.heap.size) K S R) := Box.new _ w_3 (w_3.heap.size) (by simp) _ _ _
    obtain ⟨c0, c1, c2⟩ := Box.c (FC_3.out.below ((Below.refl w_3.heap.size w_3).alloc (by simp) (.cells #[.int .i64 K, .string S, .string R] 24)) FC_3.out.lt)
    obtain ⟨c_0, c_1, c_2⟩ := Box.c FC_3.out
    have clt := FC_3.out.lt
    obtain ⟨d0, d1, d2⟩ := Box.c FD_3.out
    obtain ⟨a0, a1, a2⟩ := Box.c (FA_3.out.below ((Below.refl w_3.heap.size w_3).alloc (by simp) (.cells #[.int .i64 K, .string S, .string R] 24)) FA_3.out.lt)
    obtain ⟨a_0, a_1, a_2⟩ := Box.c FA_3.out
    have alt := FA_3.out.lt
    have q1 := neq_struct K S R
    go_wp2_with fail
    clear q1 c0 c1 c2 c_0 c_1 c_2 clt d0 d1 d2 a0 a1 a2 a_0 a_1 a_2 alt
    refine (implPieces_any N s r _ (by omega) (by omega)).mono ?_
    rintro e w_4 ⟨vp, rfl, ho, hb⟩
    have hbn : Below w_3.heap.size w_3 w_4 := ((Below.refl w_3.heap.size w_3).alloc (by simp) (.cells #[.int .i64 K, .string S, .string R] 24)).trans (hb.mono (show w_3.heap.size ≤ _ by simp))
    have FA_4 := Lib.hid (FA_3.out.below hbn FA_3.out.lt)
    have FC_4 := Lib.hid (FC_3.out.below hbn FC_3.out.lt)
    have FD_4 := Lib.hid (FD_3.out.below hb (by simp))
    have AW_4 : Hid (Below w.heap.size w w_4) := AW_3.out.trans (hbn.mono AW_3.out.size)
    clear hbn AW_3 FA_3 FC_3 FD_3
    rw [← HF.out.eP] at ho
    have FP_4 := Lib.hid (ho)
    clear ho hb
    obtain ⟨ap, cpx, hv⟩ := (OwnI.reads FP_4.out).len
    rw [HF.out.pl] at hv
    subst hv
    obtain ⟨gp, off0, rfl, -, hcell⟩ := int_spot (OwnI.reads FP_4.out) HF.out.pl.symm hn1
    have HCE := Lib.hid hcell
    clear hcell
    obtain ⟨a0, a1, a2⟩ := Box.c FA_4.out
    obtain ⟨c0, c1, c2⟩ := Box.c FC_4.out
    go_wp2_with fail
    go_loopw [10, 11] (fun v i wr => ∃ I : Nat, ∃ mx : Int, I ≤ N ∧ i = .int .i64 I ∧ v = .int .i64 mx ∧ Hid (0 ≤ mx ∧ mx ≤ 8 ∧ ∀ j, j < I → P.getD j 0 + 1 ≤ mx) ∧ wr = w_4) (fun _ i _ => N - (intOf i).toNat)
    case atStart => exact ⟨0, 0, Nat.zero_le _, rfl, rfl, ⟨by omega, by omega, fun j hj => absurd hj (Nat.not_lt_zero _)⟩, rfl⟩
    case round =>
      obtain ⟨I, mx, hI, rfl, rfl, hmx, rfl⟩ := hrel
      by_cases hIN : I < N
      · have tI : decide ((I : Int) < (N : Int)) = true := by simp; omega
        have ci := HCE.out I hIN
        obtain ⟨z, hz⟩ : ∃ z, z = P.getD I 0 := ⟨_, rfl⟩
        have hz8 := HF.out.pb I hIN
        rw [← hz] at ci hz8
        have hm0 := hmx.out.1
        have hm8 := hmx.out.2.1
        have HM : Hid (0 ≤ max mx (z + 1) ∧ max mx (z + 1) ≤ 8 ∧ ∀ j, j < I + 1 → P.getD j 0 + 1 ≤ max mx (z + 1)) := by
          refine ⟨by omega, by omega, fun j hj => ?_⟩
          by_cases e : j = I
          · subst e; rw [← hz]; omega
          · have := hmx.out.2.2 j (by omega); omega
        clear hmx hz
        go_wp2
        go_roundw
        case rel => first | exact ⟨I + 1, _, by omega, by go_num, rfl, HM, trivial⟩ | exact ⟨I + 1, _, by omega, by go_num, rfl, HM, rfl⟩ | ((repeat apply Exists.intro); exact ⟨⟨I + 1, _, by omega, by go_num, rfl, HM, rfl⟩, rfl⟩)
        case measure => simp [intOf]; omega
      · obtain rfl : N = I := by omega
        have tI : decide ((N : Int) < (N : Int)) = false := by simp
        clear hIN hI HCE
        have HMX : Hid (0 ≤ mx ∧ mx ≤ 8 ∧ 0 ≤ Q.getD (K - 1) 0 ∧ Q.getD (K - 1) 0 < mx * c) := ⟨hmx.out.1, hmx.out.2.1, HF.out.most mx hmx.out.1 hmx.out.2.2⟩
        clear hmx
        go_wp2_with fail
        clear a0 a1 a2 c0 c1 c2 FD_4
        refine (implPieces_any K S R _ (by have := HF.out.z; omega) (by have := HF.out.z; omega)).mono ?_
        rintro e w_5 ⟨vq, rfl, ho, hb⟩
        have hbn := hb
        have FA_5 := Lib.hid (FA_4.out.below hbn FA_4.out.lt)
        have FC_5 := Lib.hid (FC_4.out.below hbn FC_4.out.lt)
        have FP_5 := Lib.hid (FP_4.out.below hbn (Nat.le_refl _))
        have AW_5 : Hid (Below w.heap.size w w_5) := AW_4.out.trans (hbn.mono AW_4.out.size)
        clear hbn AW_4 FA_4 FC_4 FP_4
        rw [← HF.out.eQ] at ho
        have FQ_5 := Lib.hid (ho)
        clear ho hb
        obtain ⟨aq, cq, hv⟩ := (OwnI.reads FQ_5.out).len
        rw [HF.out.ql] at hv
        subst hv
        obtain ⟨gq, off1, rfl, hgq, hcell⟩ := int_spot (OwnI.reads FQ_5.out) HF.out.ql.symm hk1
        have HCE := Lib.hid (show gq < w_5.heap.size ∧ _ from ⟨hgq, hcell (K - 1) (by omega)⟩)
        clear hcell hgq
        obtain ⟨a0, a1, a2⟩ := Box.c FA_5.out
        obtain ⟨c0, c1, c2⟩ := Box.c FC_5.out
        by_cases hc1 : c = 1
        · obtain ⟨rfl, rfl, rfl⟩ := HF.out.one hc1
          subst hc1
          have q2 := eq_struct K S R
          go_wp2
          go_ret
          exact ⟨rfl, AW_5.out⟩
        · obtain ⟨D, S2, R2, h3, h4⟩ := HF.out.more (by omega)
          have HC3 := Lib.hid h3
          have HC4 := Lib.hid h4
          have t1 : ((c : Int) == 1) = false := by simp; omega
          clear h3 h4 a0 a1 a2 c0 c1 c2 FP_5 HCE
          obtain ⟨a0, a1, a2⟩ := Box.c FA_5.out
          go_wp2_with fail
          clear  a0 a1 a2
          refine ((HC3).out _).mono ?_
          rintro e w_6 ⟨rfl, hb⟩
          have hbn := hb
          have FA_6 := Lib.hid (FA_5.out.below hbn FA_5.out.lt)
          have FC_6 := Lib.hid (FC_5.out.below hbn FC_5.out.lt)
          have FQ_6 := Lib.hid (FQ_5.out.below hbn (Nat.le_refl _))
          have AW_6 : Hid (Below w.heap.size w w_6) := AW_5.out.trans (hbn.mono AW_5.out.size)
          clear hbn AW_5 FA_5 FC_5 FQ_5
          clear hb
          have FE_6 : Hid (Box 24 (w_6.alloc (.cells #[.int .i64 D, .string S2, .string R2] 24)) (w_6.heap.size) D S2 R2) := Box.new _ w_6 (w_6.heap.size) (by simp) _ _ _
          obtain ⟨a0, a1, a2⟩ := Box.c (FA_6.out.below ((Below.refl w_6.heap.size w_6).alloc (by simp) (.cells #[.int .i64 D, .string S2, .string R2] 24)) FA_6.out.lt)
          obtain ⟨a_0, a_1, a_2⟩ := Box.c FA_6.out
          have alt := FA_6.out.lt
          obtain ⟨e0, e1, e2⟩ := Box.c FE_6.out
          go_wp2_with fail
          clear  a0 a1 a2 a_0 a_1 a_2 alt e0 e1 e2
          refine ((HC4).out _).mono ?_
          rintro e w_7 ⟨rfl, hb⟩
          have hbn : Below w_6.heap.size w_6 w_7 := ((Below.refl w_6.heap.size w_6).alloc (by simp) (.cells #[.int .i64 D, .string S2, .string R2] 24)).trans (hb.mono (show w_6.heap.size ≤ _ by simp))
          have FA_7 := Lib.hid (FA_6.out.below hbn FA_6.out.lt)
          have FC_7 := Lib.hid (FC_6.out.below hbn FC_6.out.lt)
          have FQ_7 := Lib.hid (FQ_6.out.below hbn (Nat.le_refl _))
          have FE_7 := Lib.hid (FE_6.out.below hb (by simp))
          have AW_7 : Hid (Below w.heap.size w w_7) := AW_6.out.trans (hbn.mono AW_6.out.size)
          clear hbn AW_6 FA_6 FC_6 FQ_6 FE_6
          clear hb
          have FG_7 : Hid (Box 24 (w_7.alloc (.cells #[.int .i64 K, .string S, .string R] 24)) (w_7.heap.size) K S R) := Box.new _ w_7 (w_7.heap.size) (by simp) _ _ _
          have AX := Lib.hid (AW_7.out.trans (((Below.refl w_7.heap.size w_7).alloc (by simp) (.cells #[.int .i64 K, .string S, .string R] 24)).mono AW_7.out.size))
          obtain ⟨a0, a1, a2⟩ := Box.c (FA_7.out.below ((Below.refl w_7.heap.size w_7).alloc (by simp) (.cells #[.int .i64 K, .string S, .string R] 24)) FA_7.out.lt)
          obtain ⟨a_0, a_1, a_2⟩ := Box.c FA_7.out
          have alt := FA_7.out.lt
          obtain ⟨g0, g1, g2⟩ := Box.c FG_7.out
          have XA := Lib.hid (FA_7.out.below ((Below.refl w_7.heap.size w_7).alloc (by simp) (.cells #[.int .i64 K, .string S, .string R] 24)) FA_7.out.lt)
          have XC := Lib.hid (FC_7.out.below ((Below.refl w_7.heap.size w_7).alloc (by simp) (.cells #[.int .i64 K, .string S, .string R] 24)) FC_7.out.lt)
          have XG := Lib.hid FG_7.out
          have hcq := reads_cell (OwnI.reads (FQ_7.out.below ((Below.refl w_7.heap.size w_7).alloc (by simp) (.cells #[.int .i64 K, .string S, .string R] 24)) (Nat.le_refl _))) HF.out.ql.symm (i := K - 1) (by omega)
          clear AW_7 FA_7 FC_7 FG_7 FE_7 FQ_7 t1 hc1
          obtain ⟨W9, hW9⟩ : ∃ QZ, QZ = (w_7.alloc (.cells #[.int .i64 K, .string S, .string R] 24)) := ⟨_, rfl⟩
          rw [← hW9] at AX
          rw [← hW9] at XA
          rw [← hW9] at XC
          rw [← hW9] at XG
          rw [← hW9] at hcq
          go_wp2_with fail
          rw [← hW9]
          clear hW9 a0 a1 a2 a_0 a_1 a_2 alt g0 g1 g2
          have hgq : gq < W9.heap.size := World.block_lt_of_cell? W9 ⟨gq, off1 + (K - 1), none⟩ hcq
          obtain ⟨zq, hzq⟩ : ∃ zq, zq = Q.getD (K - 1) 0 := ⟨_, rfl⟩
          obtain ⟨mc, hmc⟩ : ∃ mc, mc = mx * (c : Int) := ⟨_, rfl⟩
          have hm64 : 0 ≤ mc ∧ mc ≤ 64 := by
            rw [hmc]
            have a : 0 * (c : Int) ≤ mx * (c : Int) := Int.mul_le_mul_of_nonneg_right HMX.out.1 (by omega)
            have b : mx * (c : Int) ≤ 8 * (c : Int) := Int.mul_le_mul_of_nonneg_right HMX.out.2.1 (by omega)
            omega
          have hlt := HMX.out.2.2.2
          have hz0 := HMX.out.2.2.1
          rw [← hzq, ← hmc] at hlt
          rw [← hzq] at hz0 hcq
          have hw1 : IntKind.i64.wrap (mx * (c : Int)) = mc := by rw [← hmc, IntKind.wrap_i64]; omega
          have tz : decide (zq < mc) = true := decide_eq_true hlt
          have hkc : ((c : Int) * (N : Int)) = (K : Int) := by rw [HF.out.k]; push_cast; rfl
          have hw2 : IntKind.i64.wrap ((c : Int) * (N : Int)) = (K : Int) := by rw [hkc, IntKind.wrap_i64]; omega
          obtain ⟨a1, ha1⟩ : ∃ a1, a1 = symN K S R := ⟨_, rfl⟩
          obtain ⟨a2, ha2⟩ : ∃ a2, a2 = symN N s r := ⟨_, rfl⟩
          have hdv := HF.out.sym
          have ha20 := copl.sym_pos N s r
          have hr0 : ((a1 : Int).tmod (a2 : Int)) = 0 := by
            rw [← ha1, ← ha2] at hdv
            rw [Int.tmod_eq_emod_of_nonneg (by omega)]
            exact Int.emod_eq_zero_of_dvd (Int.natCast_dvd_natCast.2 hdv)
          have hne0 : ¬ a2 = 0 := by omega
          have hq8 := HF.out.z
          have CS1 : Hid (∀ W, Calls Tryd.prog 27 #[.agg #[.int .i64 K, .string S, .string R]] W fun e w' => e = .returned (.int .i64 a1) ∧ Below W.heap.size W w') := fun W => by rw [ha1]; exact symn.implCountSymmetries_at K S R W HF.out.vc hk8 ⟨hq8.2.2.1, hq8.2.2.2.1⟩
          have CS2 : Hid (∀ W, Calls Tryd.prog 27 #[.agg #[.int .i64 N, .string s, .string r]] W fun e w' => e = .returned (.int .i64 a2) ∧ Below W.heap.size W w') := fun W => by rw [ha2]; exact symn.implCountSymmetries_at N s r W HF.out.vs hn8 ⟨hq8.1, hq8.2.1⟩
          have q2 := eq_struct K S R
          clear hmc hzq hlt hkc ha1 ha2 hdv ha20 hq8
          have cq : ∀ X : Wd (fun W => Hid (Below W9.heap.size W9 W)), X.w.cell? ⟨gq, off1 + (K - 1), none⟩ = some (.int .i64 zq) := fun X => by rw [X.ok.out.cell (p := ⟨gq, off1 + (K - 1), none⟩) hgq]; exact hcq
          clear hcq
          have a0 : ∀ X : Wd (fun W => Hid (Below W9.heap.size W9 W)), X.w.cell? ⟨w_1.heap.size, 0, none⟩ = some (.int .i64 N) := fun X => (XA.out.below X.ok.out XA.out.lt).c.1
          have a1 : ∀ X : Wd (fun W => Hid (Below W9.heap.size W9 W)), X.w.cell? ⟨w_1.heap.size, 1, none⟩ = some (.string s) := fun X => (XA.out.below X.ok.out XA.out.lt).c.2.1
          have a2 : ∀ X : Wd (fun W => Hid (Below W9.heap.size W9 W)), X.w.cell? ⟨w_1.heap.size, 2, none⟩ = some (.string r) := fun X => (XA.out.below X.ok.out XA.out.lt).c.2.2
          have c0 : ∀ X : Wd (fun W => Hid (Below W9.heap.size W9 W)), X.w.cell? ⟨w_2.heap.size, 0, none⟩ = some (.int .i64 K) := fun X => (XC.out.below X.ok.out XC.out.lt).c.1
          have c1 : ∀ X : Wd (fun W => Hid (Below W9.heap.size W9 W)), X.w.cell? ⟨w_2.heap.size, 1, none⟩ = some (.string S) := fun X => (XC.out.below X.ok.out XC.out.lt).c.2.1
          have c2 : ∀ X : Wd (fun W => Hid (Below W9.heap.size W9 W)), X.w.cell? ⟨w_2.heap.size, 2, none⟩ = some (.string R) := fun X => (XC.out.below X.ok.out XC.out.lt).c.2.2
          have g0 : ∀ X : Wd (fun W => Hid (Below W9.heap.size W9 W)), X.w.cell? ⟨w_7.heap.size, 0, none⟩ = some (.int .i64 K) := fun X => (XG.out.below X.ok.out XG.out.lt).c.1
          have g1 : ∀ X : Wd (fun W => Hid (Below W9.heap.size W9 W)), X.w.cell? ⟨w_7.heap.size, 1, none⟩ = some (.string S) := fun X => (XG.out.below X.ok.out XG.out.lt).c.2.1
          have g2 : ∀ X : Wd (fun W => Hid (Below W9.heap.size W9 W)), X.w.cell? ⟨w_7.heap.size, 2, none⟩ = some (.string R) := fun X => (XG.out.below X.ok.out XG.out.lt).c.2.2
          have hne : Nonempty (Wd (fun W => Hid (Below W9.heap.size W9 W))) := ⟨⟨W9, Lib.hid (Below.refl _ _)⟩⟩
          refine flow_last (S := (fun W => Hid (Below W9.heap.size W9 W))) (by kernel_rfl) (by kernel_rfl) (by kernel_rfl) (by kernel_rfl) (by kernel_rfl) (Lib.hid (Below.refl _ _).drew) ?_
          simp only [List.dropLast_cons_cons, List.dropLast_singleton, List.getLast?_cons_cons, List.getLast?_singleton, Option.toList_some]
          repeat (go_big_quiet_step (first
            | ((with_reducible refine (CS1.out _).mono ?_); rintro e W ⟨rfl, hb⟩; exact ⟨rfl, Wd.on (Wd.ok _) hb⟩)
            | ((with_reducible refine (CS2.out _).mono ?_); rintro e W ⟨rfl, hb⟩; exact ⟨rfl, Wd.on (Wd.ok _) hb⟩)))
          refine wpQuiet_nil ?_
          rintro _ ⟨ZW, rfl⟩
          have HZW := Lib.hid ZW.ok.out
          clear a0 a1 a2 c0 c1 c2 g0 g1 g2 hne

          go_wp2
          go_ret
          exact ⟨rfl, AX.out.trans (HZW.out.mono AX.out.size)⟩
end Go.Proofs.YtefneihlgclkbaaDoor.fnCopiesW
