/- FnSameBall: the walk. -/
import Derived.Test.YtefneihlgclkbaaDoorPkL
import Derived.Test.YtefneihlgclkbaaDoorSbl
import Derived.Test.YtefneihlgclkbaaDoorPkI
import Derived.Test.YtefneihlgclkbaaDoorOrbit
import Derived.Test.YtefneihlgclkbaaDoorInRel
import Derived.Test.YtefneihlgclkbaaDoorRow
namespace Go.Proofs.YtefneihlgclkbaaDoor.fnSballW
set_option linter.unusedVariables false
set_option linter.unusedSimpArgs false
open Go.ChangeShapes Go.WideShapes Go.ChangeAt Go.RowKit
open Go.Proofs.YtefneihlgclkbaaDoor.flow Go.Proofs.YtefneihlgclkbaaDoor.lib Go.Proofs.YtefneihlgclkbaaDoor.st Go.Proofs.YtefneihlgclkbaaDoor.draw Go.Proofs.YtefneihlgclkbaaDoor.base Go.Proofs.YtefneihlgclkbaaDoor.make Go.Proofs.YtefneihlgclkbaaDoor.prod Go.Proofs.YtefneihlgclkbaaDoor.val Go.Proofs.YtefneihlgclkbaaDoor.fits Go.Proofs.YtefneihlgclkbaaDoor.part Go.Proofs.YtefneihlgclkbaaDoor.chain Go.Proofs.YtefneihlgclkbaaDoor.same Go.Proofs.YtefneihlgclkbaaDoor.sbl Go.Proofs.YtefneihlgclkbaaDoor.ispart Go.Proofs.YtefneihlgclkbaaDoor.pairL Go.Proofs.YtefneihlgclkbaaDoor.drawq Go.Proofs.YtefneihlgclkbaaDoor.still
/-- bytes that came in may be drawn from -/
theorem byt_of_row {w : World} {a : Option Addr} {n c : Nat} {zs : List Int} (h : row.IsRow .u8 w a n c zs) : Byt w w.heap.size a n ∧ n ≤ c ∧ c ≤ 9223372036854775807 := by
  rcases h with ⟨rfl, rfl, rfl, rfl⟩ | ⟨x, rfl, hl, hm, hz, hcell, hwf⟩
  · exact ⟨.inl rfl, Nat.le_refl _, by omega⟩
  · refine ⟨?_, hl, hm⟩
    by_cases h0 : n = 0
    · exact .inl h0
    · obtain ⟨b, off, spot⟩ := x
      have hc := hcell 0 (by omega)
      have hspot : spot = none := by simpa [Addr.add] using World.cell?_spot hc
      subst hspot
      have hlt := World.block_lt_of_cell? w _ hc
      refine .inr ⟨b, off, rfl, by simpa [Addr.add] using hlt, fun i hi => ?_⟩
      have hci := hcell i (by omega)
      have hw := hwf (zs.getD i 0) (by rw [List.getD_eq_getElem?_getD, List.getElem?_eq_getElem (by omega)]; exact List.getElem_mem _)
      have hb : 0 ≤ zs.getD i 0 ∧ zs.getD i 0 ≤ 255 := by
        generalize zs.getD i 0 = z at hw ⊢
        simp only [Lit.wf, IntKind.min, IntKind.max, IntKind.signed, IntKind.bits, Bool.and_eq_true, decide_eq_true_eq] at hw
        simp at hw
        omega
      refine ⟨(zs.getD i 0).toNat, by omega, ?_⟩
      rw [show (⟨b, off, none⟩ : Addr).add i = ⟨b, off + i, none⟩ from by simp only [Addr.add]; split <;> simp [*]] at hci
      rw [hci, show (((zs.getD i 0).toNat : Nat) : Int) = zs.getD i 0 from by omega]

theorem own_at {T : TypeId} {w : World} {B n : Nat} {v : Value} {l : List Int} (h : OwnI T w B v l) (hl : l.length = n) (h1 : 1 ≤ n) : ∃ g c, v = .slice (some ⟨g, 0, none⟩) n c := by
  rcases h.shape with ⟨_, h2⟩ | ⟨g, cap, hv⟩
  · rw [h2] at hl; simp at hl; omega
  · exact ⟨g, cap, by rw [hv, hl]⟩
theorem oneOwn (T : TypeId) (w : World) (B H : Nat) (x : Int) (hH : w.heap.size = H) (hB : B ≤ H) : OwnI T (w.alloc (.cells #[.int .i64 x] T)) B (.slice (some ⟨H, 0, none⟩) 1 1) [x] := by
  subst hH
  exact ⟨rfl, .inr ⟨_, 1, _, rfl, hB, heap_alloc_new w _, Nat.le_refl _, by decide, rfl, rfl⟩⟩

set_option maxHeartbeats 40000000 in
set_option maxRecDepth 100000 in
theorem walk (a0 : Option Addr) (n0 c0 : Nat) (l0 : List Int) (w : World) (h0 : row.IsRow .u8 w a0 n0 c0 l0) :
    Calls Tryd.prog 7 #[.slice a0 n0 c0] w fun e w' => e = .returned (.bool true) ∧ Below w.heap.size w w' := by
  obtain ⟨by0, nc0, cm0⟩ := byt_of_row h0
  have BY0 := Lib.hid by0
  clear by0
  clear h0
  by_cases hg0 : 1048576 < n0
  · go_enter Tryd.func7, Tryd.ntmps7
    go_wp2
    go_ret
    exact ⟨rfl, Below.refl _ _⟩
  go_enter Tryd.func7, Tryd.ntmps7
  have AW_0 : Hid (Below w.heap.size w w) := Below.refl _ _
  go_wp2_with fail
  refine (drawSameBall_any a0 n0 c0 _ BY0.out nc0 cm0).mono ?_
  rintro e w_1 ⟨n, s, r, x, m, t, q, y, rad, rfl, hnw, hs, hr, hmw, ht, hq, hxw, hyw, hrad, hb⟩
  have hbn := hb
  have AW_1 : Hid (Below w.heap.size w w_1) := AW_0.out.trans (hbn.mono AW_0.out.size)
  clear hbn AW_0 
  have FA_1 : Hid (Box 24 (w_1.alloc (.cells #[.int .i64 n, .string s, .string r] 24)) (w_1.heap.size) n s r) := Box.new _ w_1 (w_1.heap.size) (by simp) _ _ _
  have FA_1 := Lib.hid (FA_1.out.below ((Below.refl (w_1.heap.size + 1) _).alloc (by simp) (.cells #[.int .i64 m, .string t, .string q] 24)) (by omega))
  have FB_1 : Hid (Box 24 ((w_1.alloc (.cells #[.int .i64 n, .string s, .string r] 24)).alloc (.cells #[.int .i64 m, .string t, .string q] 24)) (w_1.heap.size + 1) m t q) := Box.new _ (w_1.alloc (.cells #[.int .i64 n, .string s, .string r] 24)) (w_1.heap.size + 1) (by simp) _ _ _
  clear hb
  obtain ⟨S, hS⟩ : ∃ S, S = sameR n s r x m t q y rad := ⟨_, rfl⟩
  have HS := Lib.hid hS
  have HSI : Hid (∀ W, Calls Tryd.prog 34 #[.agg #[.int .i64 n, .string s, .string r], .int .i64 x, .agg #[.int .i64 m, .string t, .string q], .int .i64 y, .int .i64 rad] W fun e w' => e = .returned (.bool S) ∧ Below W.heap.size W w') := fun W => by rw [hS]; exact implSameBall_any n s r x m t q y rad W (by omega) (by omega) (by omega) (by omega)
  have HSS : Hid (∀ W, Calls Tryd.prog 35 #[.agg #[.int .i64 n, .string s, .string r], .int .i64 x, .agg #[.int .i64 m, .string t, .string q], .int .i64 y, .int .i64 rad] W fun e w' => e = .returned (.bool S) ∧ Below W.heap.size W w') := fun W => by rw [hS]; exact specSameBall_any n s r x m t q y rad W hnw hmw (by omega) (by omega) (by omega) (by omega)
  have hss : (S != S) = false := by cases S <;> rfl
  clear hS hnw hmw hxw hyw
  obtain ⟨a0, a1, a2⟩ := Box.c FA_1.out
  obtain ⟨b0, b1, b2⟩ := Box.c FB_1.out
  go_wp2_with fail
  clear  a0 a1 a2 b0 b1 b2
  refine ((HSI).out _).mono ?_
  rintro e w_2 ⟨rfl, hb⟩
  have hbn : Below w_1.heap.size w_1 w_2 := (((Below.refl w_1.heap.size w_1).alloc (by simp) (.cells #[.int .i64 n, .string s, .string r] 24)).alloc (by simp) (.cells #[.int .i64 m, .string t, .string q] 24)).trans (hb.mono (show w_1.heap.size ≤ _ by simp <;> omega))
  have FA_2 := Lib.hid (FA_1.out.below hb (by simp <;> omega))
  have FB_2 := Lib.hid (FB_1.out.below hb (by simp <;> omega))
  have AW_2 : Hid (Below w.heap.size w w_2) := AW_1.out.trans (hbn.mono AW_1.out.size)
  clear hbn AW_1 FA_1 FB_1
  clear hb
  obtain ⟨a0, a1, a2⟩ := Box.c FA_2.out
  obtain ⟨b0, b1, b2⟩ := Box.c FB_2.out
  go_wp2_with fail
  clear  a0 a1 a2 b0 b1 b2
  refine ((HSS).out _).mono ?_
  rintro e w_3 ⟨rfl, hb⟩
  have hbn := hb
  have FA_3 := Lib.hid (FA_2.out.below hbn FA_2.out.lt)
  have FB_3 := Lib.hid (FB_2.out.below hbn FB_2.out.lt)
  have AW_3 : Hid (Below w.heap.size w w_3) := AW_2.out.trans (hbn.mono AW_2.out.size)
  clear hbn AW_2 FA_2 FB_2
  clear hb
  obtain ⟨a0, a1, a2⟩ := Box.c FA_3.out
  obtain ⟨b0, b1, b2⟩ := Box.c FB_3.out
  go_wp2_with fail
  clear a0 a1 a2 b0 b1 b2
  refine (inrel.implValid_any n s r _ (by omega) (by omega)).mono ?_
  rintro e w_4 ⟨rfl, hb⟩
  have hbn := hb
  have FA_4 := Lib.hid (FA_3.out.below hbn FA_3.out.lt)
  have FB_4 := Lib.hid (FB_3.out.below hbn FB_3.out.lt)
  have AW_4 : Hid (Below w.heap.size w w_4) := AW_3.out.trans (hbn.mono AW_3.out.size)
  clear hbn AW_3 FA_3 FB_3
  clear hb
  cases hv : validB n s r with
  | false =>
    clear hv
    obtain ⟨a0, a1, a2⟩ := Box.c FA_4.out
    obtain ⟨b0, b1, b2⟩ := Box.c FB_4.out
    go_wp2_with fail
    clear  a0 a1 a2 b0 b1 b2
    refine ((HSS).out _).mono ?_
    rintro e w_5 ⟨rfl, hb⟩
    have hbn := hb
    have FA_5 := Lib.hid (FA_4.out.below hbn FA_4.out.lt)
    have FB_5 := Lib.hid (FB_4.out.below hbn FB_4.out.lt)
    have AW_5 : Hid (Below w.heap.size w w_5) := AW_4.out.trans (hbn.mono AW_4.out.size)
    clear hbn AW_4 FA_4 FB_4
    clear hb
    go_wp2
    go_ret
    exact ⟨rfl, AW_5.out⟩
  | true =>
    by_cases h1 : x < 0
    · have t1 : decide (x < 0) = true := decide_eq_true h1
      clear hv
      obtain ⟨a0, a1, a2⟩ := Box.c FA_4.out
      obtain ⟨b0, b1, b2⟩ := Box.c FB_4.out
      go_wp2_with fail
      clear  a0 a1 a2 b0 b1 b2
      refine ((HSS).out _).mono ?_
      rintro e w_5 ⟨rfl, hb⟩
      have hbn := hb
      have FA_5 := Lib.hid (FA_4.out.below hbn FA_4.out.lt)
      have FB_5 := Lib.hid (FB_4.out.below hbn FB_4.out.lt)
      have AW_5 : Hid (Below w.heap.size w w_5) := AW_4.out.trans (hbn.mono AW_4.out.size)
      clear hbn AW_4 FA_4 FB_4
      clear hb
      go_wp2
      go_ret
      exact ⟨rfl, AW_5.out⟩
    · have t1 : decide (x < 0) = false := decide_eq_false h1
      by_cases h2 : n ≤ x
      · have t2 : decide (n ≤ x) = true := decide_eq_true h2
        clear hv
        obtain ⟨a0, a1, a2⟩ := Box.c FA_4.out
        obtain ⟨b0, b1, b2⟩ := Box.c FB_4.out
        go_wp2_with fail
        clear  a0 a1 a2 b0 b1 b2
        refine ((HSS).out _).mono ?_
        rintro e w_5 ⟨rfl, hb⟩
        have hbn := hb
        have FA_5 := Lib.hid (FA_4.out.below hbn FA_4.out.lt)
        have FB_5 := Lib.hid (FB_4.out.below hbn FB_4.out.lt)
        have AW_5 : Hid (Below w.heap.size w w_5) := AW_4.out.trans (hbn.mono AW_4.out.size)
        clear hbn AW_4 FA_4 FB_4
        clear hb
        go_wp2
        go_ret
        exact ⟨rfl, AW_5.out⟩
      · have t2 : decide (n ≤ x) = false := decide_eq_false h2
        by_cases h3 : y < 0
        · have t3 : decide (y < 0) = true := decide_eq_true h3
          clear hv
          obtain ⟨a0, a1, a2⟩ := Box.c FA_4.out
          obtain ⟨b0, b1, b2⟩ := Box.c FB_4.out
          go_wp2_with fail
          clear  a0 a1 a2 b0 b1 b2
          refine ((HSS).out _).mono ?_
          rintro e w_5 ⟨rfl, hb⟩
          have hbn := hb
          have FA_5 := Lib.hid (FA_4.out.below hbn FA_4.out.lt)
          have FB_5 := Lib.hid (FB_4.out.below hbn FB_4.out.lt)
          have AW_5 : Hid (Below w.heap.size w w_5) := AW_4.out.trans (hbn.mono AW_4.out.size)
          clear hbn AW_4 FA_4 FB_4
          clear hb
          go_wp2
          go_ret
          exact ⟨rfl, AW_5.out⟩
        · have t3 : decide (y < 0) = false := decide_eq_false h3
          by_cases h4 : m ≤ y
          · have t4 : decide (m ≤ y) = true := decide_eq_true h4
            clear hv
            obtain ⟨a0, a1, a2⟩ := Box.c FA_4.out
            obtain ⟨b0, b1, b2⟩ := Box.c FB_4.out
            go_wp2_with fail
            clear  a0 a1 a2 b0 b1 b2
            refine ((HSS).out _).mono ?_
            rintro e w_5 ⟨rfl, hb⟩
            have hbn := hb
            have FA_5 := Lib.hid (FA_4.out.below hbn FA_4.out.lt)
            have FB_5 := Lib.hid (FB_4.out.below hbn FB_4.out.lt)
            have AW_5 : Hid (Below w.heap.size w w_5) := AW_4.out.trans (hbn.mono AW_4.out.size)
            clear hbn AW_4 FA_4 FB_4
            clear hb
            go_wp2
            go_ret
            exact ⟨rfl, AW_5.out⟩
          · have t4 : decide (m ≤ y) = false := decide_eq_false h4
            by_cases h5 : rad < 0
            · have t5 : decide (rad < 0) = true := decide_eq_true h5
              clear hv
              obtain ⟨a0, a1, a2⟩ := Box.c FA_4.out
              obtain ⟨b0, b1, b2⟩ := Box.c FB_4.out
              go_wp2_with fail
              clear  a0 a1 a2 b0 b1 b2
              refine ((HSS).out _).mono ?_
              rintro e w_5 ⟨rfl, hb⟩
              have hbn := hb
              have FA_5 := Lib.hid (FA_4.out.below hbn FA_4.out.lt)
              have FB_5 := Lib.hid (FB_4.out.below hbn FB_4.out.lt)
              have AW_5 : Hid (Below w.heap.size w w_5) := AW_4.out.trans (hbn.mono AW_4.out.size)
              clear hbn AW_4 FA_4 FB_4
              clear hb
              go_wp2
              go_ret
              exact ⟨rfl, AW_5.out⟩
            · have t5 : decide (rad < 0) = false := decide_eq_false h5
              by_cases h6 : 100 < rad
              · have t6 : decide (100 < rad) = true := decide_eq_true h6
                clear hv
                obtain ⟨a0, a1, a2⟩ := Box.c FA_4.out
                obtain ⟨b0, b1, b2⟩ := Box.c FB_4.out
                go_wp2_with fail
                clear  a0 a1 a2 b0 b1 b2
                refine ((HSS).out _).mono ?_
                rintro e w_5 ⟨rfl, hb⟩
                have hbn := hb
                have FA_5 := Lib.hid (FA_4.out.below hbn FA_4.out.lt)
                have FB_5 := Lib.hid (FB_4.out.below hbn FB_4.out.lt)
                have AW_5 : Hid (Below w.heap.size w w_5) := AW_4.out.trans (hbn.mono AW_4.out.size)
                clear hbn AW_4 FA_4 FB_4
                clear hb
                go_wp2
                go_ret
                exact ⟨rfl, AW_5.out⟩
              · have t6 : decide (100 < rad) = false := decide_eq_false h6
                obtain ⟨N, X, rfl, rfl, S', I, P, Q, hf⟩ := sbl.fact (n := n) (s := s) (r := r) (x := x) (m := m) (t := t) (q := q) (y := y) (rad := rad) hv ⟨by omega, by omega⟩ ⟨by omega, by omega⟩ ⟨by omega, by omega⟩
                obtain rfl : S' = S := by rw [HS.out]; exact hf.eS
                have HF := Lib.hid hf
                have hn1 := hf.n1
                have hn8 := hf.n8
                have hX := hf.hX
                clear hf hv HS
                obtain ⟨a0, a1, a2⟩ := Box.c FA_4.out
                obtain ⟨b0, b1, b2⟩ := Box.c FB_4.out
                go_wp2_with fail
                clear a0 a1 a2 b0 b1 b2
                refine (orbit.implOrbitOf_at N X s r _ HF.out.hv hX hn8 HF.out.hs HF.out.hr).mono ?_
                rintro e w_5 ⟨vo, L, rfl, ho, hLl, hL, hb⟩
                have hbn := hb
                have FA_5 := Lib.hid (FA_4.out.below hbn FA_4.out.lt)
                have FB_5 := Lib.hid (FB_4.out.below hbn FB_4.out.lt)
                have AW_5 : Hid (Below w.heap.size w w_5) := AW_4.out.trans (hbn.mono AW_4.out.size)
                clear hbn AW_4 FA_4 FB_4
                have HOL := Lib.hid hL
                obtain ⟨nl, hnl⟩ : ∃ z, z = L.length := ⟨_, rfl⟩
                obtain ⟨al, cl, hvv⟩ := ho.reads.len
                rw [ints_len, ← hnl] at hvv
                subst hvv
                have HNL := Lib.hid hnl
                have hnl8 : nl ≤ 8 := by omega
                have HLO := Lib.hid ho
                clear ho hLl hL hb hnl
                obtain ⟨BL, HLB⟩ : ∃ BL, Hid (OwnI 3 w_5 BL (.slice al nl cl) (ints L)) := ⟨_, HLO.out⟩
                have HS0 : Hid (Below w.heap.size w w_5 ∧ Box 24 w_5 w_1.heap.size N s r ∧ Box 24 w_5 (w_1.heap.size + 1) m t q ∧ OwnI 3 w_5 BL (.slice al nl cl) (ints L)) := ⟨AW_5.out, FA_5.out, FB_5.out, HLB.out⟩
                clear AW_5 FA_5 FB_5 HLO HLB
                go_wp2_with fail
                go_loopw [10] (fun i wr => ∃ J : Nat, J ≤ nl ∧ i = .int .i64 J ∧ Below w.heap.size w wr ∧ Box 24 wr w_1.heap.size N s r ∧ Box 24 wr (w_1.heap.size + 1) m t q ∧ OwnI 3 wr BL (.slice al nl cl) (ints L)) (fun i _ => nl - (intOf i).toNat)
                case atStart => exact ⟨0, Nat.zero_le _, rfl, HS0.out⟩
                case round =>
                  clear HS0
                  obtain ⟨J, hJ, rfl, hst⟩ := hrel
                  have HQ := Lib.hid hst
                  clear hst
                  by_cases hJn : J < nl
                  · have tJ : decide ((J : Int) < (nl : Int)) = true := by simp; omega
                    obtain ⟨gl, clx, hv⟩ := own_at (n := nl) HQ.out.2.2.2 (by rw [ints_len]; exact HNL.out.symm) (by omega)
                    simp only [Value.slice.injEq] at hv
                    obtain ⟨rfl, -, rfl⟩ := hv
                    have k1 := HQ.out.2.2.2.cell J (by rw [ints_len]; have := HNL.out; omega)
                    rw [ints_get] at k1
                    have hmem : L.getD J 0 ∈ L := by
                      rw [List.getD_eq_getElem?_getD, List.getElem?_eq_getElem (by have := HNL.out; omega)]
                      exact List.getElem_mem _
                    obtain ⟨hy9, o, hiso, hoy⟩ := HOL.out _ hmem
                    have hor := HF.out.orbit o hiso
                    rw [hoy] at hor
                    obtain ⟨z, hz⟩ : ∃ z, L.getD J 0 = z := ⟨_, rfl⟩
                    rw [hz] at k1 hor
                    have hgl : gl < wr.heap.size := World.block_lt_of_cell? wr ⟨gl, J, none⟩ k1
                    have Q1 : Hid (∀ W, Calls Tryd.prog 34 #[.agg #[.int .i64 N, .string s, .string r], .int .i64 X, .agg #[.int .i64 N, .string s, .string r], .int .i64 z, .int .i64 rad] W fun e w' => e = .returned (.bool true) ∧ Below W.heap.size W w') := fun W => by rw [← hor]; exact implSameBall_any N s r X N s r z rad W (by omega) (by omega) (by omega) (by omega)
                    clear hmem hiso hoy hor hz o hy9
                    have a0 : ∀ X : Wd (fun W => Hid (Below wr.heap.size wr W)), X.w.cell? ⟨w_1.heap.size, 0, none⟩ = some (.int .i64 N) := fun X => (HQ.out.2.1.below X.ok.out HQ.out.2.1.lt).c.1
                    have a1 : ∀ X : Wd (fun W => Hid (Below wr.heap.size wr W)), X.w.cell? ⟨w_1.heap.size, 1, none⟩ = some (.string s) := fun X => (HQ.out.2.1.below X.ok.out HQ.out.2.1.lt).c.2.1
                    have a2 : ∀ X : Wd (fun W => Hid (Below wr.heap.size wr W)), X.w.cell? ⟨w_1.heap.size, 2, none⟩ = some (.string r) := fun X => (HQ.out.2.1.below X.ok.out HQ.out.2.1.lt).c.2.2
                    have hne : Nonempty (Wd (fun W => Hid (Below wr.heap.size wr W))) := ⟨⟨wr, Lib.hid (Below.refl _ _)⟩⟩
                    have ck : ∀ X : Wd (fun W => Hid (Below wr.heap.size wr W)), X.w.cell? ⟨gl, J, none⟩ = some (.int .i64 z) := fun X => by rw [X.ok.out.cell (p := ⟨gl, J, none⟩) hgl]; exact k1
                    clear k1
                    go_wp2_with fail
                    refine flow_all (S := (fun W => Hid (Below wr.heap.size wr W))) (by kernel_rfl) (by kernel_rfl) (Lib.hid (Below.refl _ _).drew) ?_
                    try simp only [List.append_eq, List.cons_append, List.nil_append]
                    repeat (go_big_quiet_step (first
                      | ((with_reducible refine (Q1.out _).mono ?_); rintro e W ⟨rfl, hb⟩; exact ⟨rfl, Wd.on (Wd.ok _) hb⟩)))
                    refine wpQuiet_nil ?_
                    rintro _ ⟨ZW, rfl⟩
                    have HZW := Lib.hid ZW.ok.out
                    clear a0 a1 a2 hne
                    have RH : Hid (Below w.heap.size w ZW.w ∧ Box 24 ZW.w w_1.heap.size N s r ∧ Box 24 ZW.w (w_1.heap.size + 1) m t q ∧ OwnI 3 ZW.w BL (.slice (some ⟨gl, 0, none⟩) nl cl) (ints L)) := ⟨HQ.out.1.trans (HZW.out.mono HQ.out.1.size), HQ.out.2.1.below HZW.out HQ.out.2.1.lt, HQ.out.2.2.1.below HZW.out HQ.out.2.2.1.lt, HQ.out.2.2.2.below HZW.out (Nat.le_refl _)⟩
                    clear HQ HZW ck Q1
                    go_wp2
                    go_roundw
                    case rel => first | exact ⟨J + 1, by omega, by go_num, RH.out⟩ | ((repeat apply Exists.intro); exact ⟨⟨J + 1, by omega, by go_num, RH.out⟩, rfl⟩)
                    case measure => simp [intOf]; omega
                  · obtain rfl : nl = J := by omega
                    have tJ : decide ((nl : Int) < (nl : Int)) = false := by simp
                    clear hJn hJ
                    have q0 : ∀ QQ : Wd (fun QZ => QZ.cell? ⟨w_1.heap.size, 0, none⟩ = some (.int .i64 N) ∧ QZ.cell? ⟨w_1.heap.size, 1, none⟩ = some (.string s) ∧ QZ.cell? ⟨w_1.heap.size, 2, none⟩ = some (.string r) ∧ QZ.cell? ⟨(w_1.heap.size + 1), 0, none⟩ = some (.int .i64 m) ∧ QZ.cell? ⟨(w_1.heap.size + 1), 1, none⟩ = some (.string t) ∧ QZ.cell? ⟨(w_1.heap.size + 1), 2, none⟩ = some (.string q)), QQ.w.cell? ⟨w_1.heap.size, 0, none⟩ = some (.int .i64 N) := fun QQ => QQ.ok.1
                    have q1 : ∀ QQ : Wd (fun QZ => QZ.cell? ⟨w_1.heap.size, 0, none⟩ = some (.int .i64 N) ∧ QZ.cell? ⟨w_1.heap.size, 1, none⟩ = some (.string s) ∧ QZ.cell? ⟨w_1.heap.size, 2, none⟩ = some (.string r) ∧ QZ.cell? ⟨(w_1.heap.size + 1), 0, none⟩ = some (.int .i64 m) ∧ QZ.cell? ⟨(w_1.heap.size + 1), 1, none⟩ = some (.string t) ∧ QZ.cell? ⟨(w_1.heap.size + 1), 2, none⟩ = some (.string q)), QQ.w.cell? ⟨w_1.heap.size, 1, none⟩ = some (.string s) := fun QQ => QQ.ok.2.1
                    have q2 : ∀ QQ : Wd (fun QZ => QZ.cell? ⟨w_1.heap.size, 0, none⟩ = some (.int .i64 N) ∧ QZ.cell? ⟨w_1.heap.size, 1, none⟩ = some (.string s) ∧ QZ.cell? ⟨w_1.heap.size, 2, none⟩ = some (.string r) ∧ QZ.cell? ⟨(w_1.heap.size + 1), 0, none⟩ = some (.int .i64 m) ∧ QZ.cell? ⟨(w_1.heap.size + 1), 1, none⟩ = some (.string t) ∧ QZ.cell? ⟨(w_1.heap.size + 1), 2, none⟩ = some (.string q)), QQ.w.cell? ⟨w_1.heap.size, 2, none⟩ = some (.string r) := fun QQ => QQ.ok.2.2.1
                    have q3 : ∀ QQ : Wd (fun QZ => QZ.cell? ⟨w_1.heap.size, 0, none⟩ = some (.int .i64 N) ∧ QZ.cell? ⟨w_1.heap.size, 1, none⟩ = some (.string s) ∧ QZ.cell? ⟨w_1.heap.size, 2, none⟩ = some (.string r) ∧ QZ.cell? ⟨(w_1.heap.size + 1), 0, none⟩ = some (.int .i64 m) ∧ QZ.cell? ⟨(w_1.heap.size + 1), 1, none⟩ = some (.string t) ∧ QZ.cell? ⟨(w_1.heap.size + 1), 2, none⟩ = some (.string q)), QQ.w.cell? ⟨(w_1.heap.size + 1), 0, none⟩ = some (.int .i64 m) := fun QQ => QQ.ok.2.2.2.1
                    have q4 : ∀ QQ : Wd (fun QZ => QZ.cell? ⟨w_1.heap.size, 0, none⟩ = some (.int .i64 N) ∧ QZ.cell? ⟨w_1.heap.size, 1, none⟩ = some (.string s) ∧ QZ.cell? ⟨w_1.heap.size, 2, none⟩ = some (.string r) ∧ QZ.cell? ⟨(w_1.heap.size + 1), 0, none⟩ = some (.int .i64 m) ∧ QZ.cell? ⟨(w_1.heap.size + 1), 1, none⟩ = some (.string t) ∧ QZ.cell? ⟨(w_1.heap.size + 1), 2, none⟩ = some (.string q)), QQ.w.cell? ⟨(w_1.heap.size + 1), 1, none⟩ = some (.string t) := fun QQ => QQ.ok.2.2.2.2.1
                    have q5 : ∀ QQ : Wd (fun QZ => QZ.cell? ⟨w_1.heap.size, 0, none⟩ = some (.int .i64 N) ∧ QZ.cell? ⟨w_1.heap.size, 1, none⟩ = some (.string s) ∧ QZ.cell? ⟨w_1.heap.size, 2, none⟩ = some (.string r) ∧ QZ.cell? ⟨(w_1.heap.size + 1), 0, none⟩ = some (.int .i64 m) ∧ QZ.cell? ⟨(w_1.heap.size + 1), 1, none⟩ = some (.string t) ∧ QZ.cell? ⟨(w_1.heap.size + 1), 2, none⟩ = some (.string q)), QQ.w.cell? ⟨(w_1.heap.size + 1), 2, none⟩ = some (.string q) := fun QQ => QQ.ok.2.2.2.2.2
                    have hne : Nonempty (Wd (fun QZ => QZ.cell? ⟨w_1.heap.size, 0, none⟩ = some (.int .i64 N) ∧ QZ.cell? ⟨w_1.heap.size, 1, none⟩ = some (.string s) ∧ QZ.cell? ⟨w_1.heap.size, 2, none⟩ = some (.string r) ∧ QZ.cell? ⟨(w_1.heap.size + 1), 0, none⟩ = some (.int .i64 m) ∧ QZ.cell? ⟨(w_1.heap.size + 1), 1, none⟩ = some (.string t) ∧ QZ.cell? ⟨(w_1.heap.size + 1), 2, none⟩ = some (.string q))) := ⟨⟨wr, ⟨(Box.c (HQ.out.2.1)).1, (Box.c (HQ.out.2.1)).2.1, (Box.c (HQ.out.2.1)).2.2, (Box.c (HQ.out.2.2.1)).1, (Box.c (HQ.out.2.2.1)).2.1, (Box.c (HQ.out.2.2.1)).2.2⟩⟩⟩
                    go_wp2_with fail
                    have BL0 : Hid (Below w.heap.size w wr.drew) := HQ.out.1.drew
                    have BA0 : Hid (Box 24 wr.drew w_1.heap.size N s r) := Box.drew HQ.out.2.1
                    have BB0 : Hid (Box 24 wr.drew (w_1.heap.size + 1) m t q) := Box.drew HQ.out.2.2.1
                    refine chain (S := (fun QZ => QZ.cell? ⟨w_1.heap.size, 0, none⟩ = some (.int .i64 N) ∧ QZ.cell? ⟨w_1.heap.size, 1, none⟩ = some (.string s) ∧ QZ.cell? ⟨w_1.heap.size, 2, none⟩ = some (.string r) ∧ QZ.cell? ⟨(w_1.heap.size + 1), 0, none⟩ = some (.int .i64 m) ∧ QZ.cell? ⟨(w_1.heap.size + 1), 1, none⟩ = some (.string t) ∧ QZ.cell? ⟨(w_1.heap.size + 1), 2, none⟩ = some (.string q))) [([true, true, true, false, true, true, true], 3), ([], 7)] [false, false, false, false, false, false, false, false, true, true] (by kernel_rfl) (by kernel_rfl) (by kernel_rfl) ⟨(Box.c (BA0.out)).1, (Box.c (BA0.out)).2.1, (Box.c (BA0.out)).2.2, (Box.c (BB0.out)).1, (Box.c (BB0.out)).2.1, (Box.c (BB0.out)).2.2⟩ ?_
                    simp only [wpSegs, pickB, List.dropLast_cons_cons, List.dropLast_singleton, List.getLast?_cons_cons, List.getLast?_singleton, List.toList_toArray, List.getElem?_toArray, List.getElem?_cons_succ, List.getElem?_cons_zero, Option.toList_some]
                    repeat (go_big_quiet_step (fail))
                    refine wpQuiet_nil ?_
                    intro K hK
                    go_wp2_with fail
                    refine (ball.implBall_any N s r X rad _ (by omega) (by omega)).mono ?_
                    rintro eo w7 ⟨vp, rfl, hop, hb⟩
                    have BL1 := Lib.hid (BL0.out.trans (hb.mono BL0.out.size))
                    have BA1 := Lib.hid (BA0.out.below hb BA0.out.lt)
                    have BB1 := Lib.hid (BB0.out.below hb BB0.out.lt)
                    rw [← HF.out.eP] at hop
                    have OP := Lib.hid hop
                    clear hop hb BL0 BA0 BB0
                    go_wp2_with fail
                    refine hK _ _ ⟨(Box.c (BA1.out)).1, (Box.c (BA1.out)).2.1, (Box.c (BA1.out)).2.2, (Box.c (BB1.out)).1, (Box.c (BB1.out)).2.1, (Box.c (BB1.out)).2.2⟩ ?_
                    clear hK K
                    repeat (go_big_quiet_step (fail))
                    refine wpQuiet_nil ?_
                    intro K hK
                    go_wp2_with fail
                    refine (ball.implBall_any m t q y rad _ (by omega) (by omega)).mono ?_
                    rintro eo w8 ⟨vq, rfl, hoq, hb⟩
                    have BL2 := Lib.hid (BL1.out.trans (hb.mono BL1.out.size))
                    have BA2 := Lib.hid (BA1.out.below hb BA1.out.lt)
                    have BB2 := Lib.hid (BB1.out.below hb BB1.out.lt)
                    have OP2 := Lib.hid (OP.out.below hb (Nat.le_refl _))
                    rw [← HF.out.eQ] at hoq
                    have OQ2 := Lib.hid hoq
                    clear hoq hb BL1 BA1 BB1 OP
                    go_wp2_with fail
                    refine hK _ _ ⟨(Box.c (BA2.out)).1, (Box.c (BA2.out)).2.1, (Box.c (BA2.out)).2.2, (Box.c (BB2.out)).1, (Box.c (BB2.out)).2.1, (Box.c (BB2.out)).2.2⟩ ?_
                    clear hK K
                    repeat (go_big_quiet_step (fail))
                    refine wpQuiet_nil ?_
                    clear q0 q1 q2 q3 q4 q5 hne HQ HOL HNL
                    obtain ⟨ap, cp, hv⟩ := OP2.out.reads.len
                    obtain ⟨np, hnp⟩ : ∃ z, z = P.length := ⟨_, rfl⟩
                    rw [← hnp] at hv
                    subst hv
                    obtain ⟨aq, cq, hv⟩ := OQ2.out.reads.len
                    obtain ⟨nq, hnq⟩ : ∃ z, z = Q.length := ⟨_, rfl⟩
                    rw [← hnq] at hv
                    subst hv
                    have hlen := HF.out.len
                    rw [← hnp, ← hnq] at hlen
                    clear hnp hnq OP2 OQ2
                    obtain ⟨a0, a1, a2⟩ := Box.c BA2.out
                    obtain ⟨b0, b1, b2⟩ := Box.c BB2.out
                    go_wp2_with fail
                    clear a0 a1 a2 b0 b1 b2
                    have h := implSameBall_any m t q y N s r X rad w8 (by omega) (by omega) (by omega) (by omega)
                    rw [HF.out.turned] at h
                    refine h.mono ?_
                    rintro eo w9 ⟨rfl, hb⟩
                    have BL3 := Lib.hid (BL2.out.trans (hb.mono BL2.out.size))
                    have BA3 := Lib.hid (BA2.out.below hb BA2.out.lt)
                    have BB3 := Lib.hid (BB2.out.below hb BB2.out.lt)
                    clear h hb BL2 BA2 BB2
                    have HIP : Hid (∀ W va vb, Reads W va [(X : Int)] → Reads W vb [y] → Room va → Room vb → Calls Tryd.prog 32 #[.agg #[.int .i64 N, .string s, .string r], va, .agg #[.int .i64 m, .string t, .string q], vb] W fun e w' => e = .returned (.bool I) ∧ Below W.heap.size W w') := fun W va vb h1 h2 h3 h4 => by
                      rw [HF.out.ip]
                      exact implIsPartial_any N s r va [(X : Int)] m t q vb [y] W h1 h2 (by simp) (by simp) (by omega) (by omega) (by omega) (by omega) (fun _ => ⟨h3, h4⟩)
                    cases S' with
                    | false =>
                      have t7 : (false == false) = true := rfl
                      by_cases h0 : rad = 0
                      · have hz := HF.out.zero h0
                        subst h0
                        have t8 : decide ((0 : Int) < 0) = false := by decide
                        subst hz
                        obtain ⟨a0, a1, a2⟩ := Box.c BA3.out
                        obtain ⟨b0, b1, b2⟩ := Box.c BB3.out
                        have alt := BA3.out.lt
                        have blt := BB3.out.lt
                        obtain ⟨WA, hWA⟩ : ∃ WA, WA = w9.alloc (.cells #[.int .i64 X] 3) := ⟨_, rfl⟩
                        obtain ⟨WB, hWB⟩ : ∃ WB, WB = WA.alloc (.cells #[.int .i64 y] 3) := ⟨_, rfl⟩
                        have AL1 : Below w9.heap.size w9 WA := by rw [hWA]; exact (Below.refl _ _).alloc (Nat.le_refl _) _
                        have AL2 : Below WA.heap.size WA WB := by rw [hWB]; exact (Below.refl _ _).alloc (Nat.le_refl _) _
                        have hzA : WA.heap.size = w9.heap.size + 1 := by rw [hWA]; simp
                        have O1 := Lib.hid ((show OwnI 3 WA w9.heap.size (.slice (some ⟨w9.heap.size, 0, none⟩) 1 1) [(X : Int)] by rw [hWA]; exact oneOwn _ _ _ _ _ rfl (Nat.le_refl _)).below AL2 (Nat.le_refl _))
                        have O2 : Hid (OwnI 3 WB WA.heap.size (.slice (some ⟨w9.heap.size + 1, 0, none⟩) 1 1) [y]) := by rw [← hzA, hWB]; exact oneOwn _ _ _ _ _ rfl (Nat.le_refl _)
                        have BL4 := Lib.hid (BL3.out.trans ((AL1.trans (AL2.mono (by omega))).mono BL3.out.size))
                        have BA4 := Lib.hid ((BA3.out.below AL1 alt).below AL2 (by omega))
                        have BB4 := Lib.hid ((BB3.out.below AL1 blt).below AL2 (by omega))
                        obtain ⟨d0, d1, d2⟩ := Box.c (BA3.out.below AL1 alt)
                        obtain ⟨e0, e1, e2⟩ := Box.c (BB3.out.below AL1 blt)
                        obtain ⟨f0, f1, f2⟩ := Box.c BA4.out
                        obtain ⟨g0, g1, g2⟩ := Box.c BB4.out
                        rw [hWB, hWA] at f0 f1 f2 g0 g1 g2
                        rw [hWA] at d0 d1 d2 e0 e1 e2
                        have HWB := Lib.hid (hWB.trans (by rw [hWA]))
                        clear AL1 AL2 hzA hWA hWB BL3 BA3 BB3
                        go_wp2_with fail
                        rw [← HWB.out]
                        clear a0 a1 a2 b0 b1 b2 d0 d1 d2 e0 e1 e2 f0 f1 f2 g0 g1 g2 alt blt HWB
                        refine (HIP.out _ _ _ O1.out.reads O2.out.reads ⟨by decide, by decide⟩ ⟨by decide, by decide⟩).mono ?_
                        rintro eo w23 ⟨rfl, hb⟩
                        have BL5 := Lib.hid (BL4.out.trans (hb.mono BL4.out.size))
                        have BA5 := Lib.hid (BA4.out.below hb BA4.out.lt)
                        have BB5 := Lib.hid (BB4.out.below hb BB4.out.lt)
                        clear hb BL4 BA4 BB4 O1 O2
                        go_wp2
                        go_ret
                        exact ⟨rfl, BL5.out⟩
                      · have t8 : decide ((0 : Int) < rad) = true := by simp; omega
                        obtain ⟨a0, a1, a2⟩ := Box.c BA3.out
                        obtain ⟨b0, b1, b2⟩ := Box.c BB3.out
                        go_wp2
                        go_ret
                        exact ⟨rfl, BL3.out⟩
                    | true =>
                      have hI := HF.out.part rfl
                      subst hI
                      have hl := hlen rfl
                      subst hl
                      have t7 : (true == true) = true := rfl
                      by_cases h0 : rad = 0
                      · have hz := HF.out.zero h0
                        have t9 : (rad == 0) = true := by simp [h0]
                        have t8 : decide ((0 : Int) < rad) = false := by simp; omega
                        clear h0 hz
                        obtain ⟨a0, a1, a2⟩ := Box.c BA3.out
                        obtain ⟨b0, b1, b2⟩ := Box.c BB3.out
                        have alt := BA3.out.lt
                        have blt := BB3.out.lt
                        obtain ⟨WA, hWA⟩ : ∃ WA, WA = w9.alloc (.cells #[.int .i64 X] 3) := ⟨_, rfl⟩
                        obtain ⟨WB, hWB⟩ : ∃ WB, WB = WA.alloc (.cells #[.int .i64 y] 3) := ⟨_, rfl⟩
                        have AL1 : Below w9.heap.size w9 WA := by rw [hWA]; exact (Below.refl _ _).alloc (Nat.le_refl _) _
                        have AL2 : Below WA.heap.size WA WB := by rw [hWB]; exact (Below.refl _ _).alloc (Nat.le_refl _) _
                        have hzA : WA.heap.size = w9.heap.size + 1 := by rw [hWA]; simp
                        have O1 := Lib.hid ((show OwnI 3 WA w9.heap.size (.slice (some ⟨w9.heap.size, 0, none⟩) 1 1) [(X : Int)] by rw [hWA]; exact oneOwn _ _ _ _ _ rfl (Nat.le_refl _)).below AL2 (Nat.le_refl _))
                        have O2 : Hid (OwnI 3 WB WA.heap.size (.slice (some ⟨w9.heap.size + 1, 0, none⟩) 1 1) [y]) := by rw [← hzA, hWB]; exact oneOwn _ _ _ _ _ rfl (Nat.le_refl _)
                        have BL4 := Lib.hid (BL3.out.trans ((AL1.trans (AL2.mono (by omega))).mono BL3.out.size))
                        have BA4 := Lib.hid ((BA3.out.below AL1 alt).below AL2 (by omega))
                        have BB4 := Lib.hid ((BB3.out.below AL1 blt).below AL2 (by omega))
                        obtain ⟨d0, d1, d2⟩ := Box.c (BA3.out.below AL1 alt)
                        obtain ⟨e0, e1, e2⟩ := Box.c (BB3.out.below AL1 blt)
                        obtain ⟨f0, f1, f2⟩ := Box.c BA4.out
                        obtain ⟨g0, g1, g2⟩ := Box.c BB4.out
                        rw [hWB, hWA] at f0 f1 f2 g0 g1 g2
                        rw [hWA] at d0 d1 d2 e0 e1 e2
                        have HWB := Lib.hid (hWB.trans (by rw [hWA]))
                        clear AL1 AL2 hzA hWA hWB BL3 BA3 BB3
                        go_wp2_with fail
                        rw [← HWB.out]
                        clear a0 a1 a2 b0 b1 b2 d0 d1 d2 e0 e1 e2 f0 f1 f2 g0 g1 g2 alt blt HWB
                        refine (HIP.out _ _ _ O1.out.reads O2.out.reads ⟨by decide, by decide⟩ ⟨by decide, by decide⟩).mono ?_
                        rintro eo w23 ⟨rfl, hb⟩
                        have BL5 := Lib.hid (BL4.out.trans (hb.mono BL4.out.size))
                        have BA5 := Lib.hid (BA4.out.below hb BA4.out.lt)
                        have BB5 := Lib.hid (BB4.out.below hb BB4.out.lt)
                        clear hb BL4 BA4 BB4 O1 O2
                        obtain ⟨a0, a1, a2⟩ := Box.c BA5.out
                        obtain ⟨b0, b1, b2⟩ := Box.c BB5.out
                        have alt := BA5.out.lt
                        have blt := BB5.out.lt
                        obtain ⟨WA, hWA⟩ : ∃ WA, WA = w23.alloc (.cells #[.int .i64 X] 3) := ⟨_, rfl⟩
                        obtain ⟨WB, hWB⟩ : ∃ WB, WB = WA.alloc (.cells #[.int .i64 y] 3) := ⟨_, rfl⟩
                        have AL1 : Below w23.heap.size w23 WA := by rw [hWA]; exact (Below.refl _ _).alloc (Nat.le_refl _) _
                        have AL2 : Below WA.heap.size WA WB := by rw [hWB]; exact (Below.refl _ _).alloc (Nat.le_refl _) _
                        have hzA : WA.heap.size = w23.heap.size + 1 := by rw [hWA]; simp
                        have O1 := Lib.hid ((show OwnI 3 WA w23.heap.size (.slice (some ⟨w23.heap.size, 0, none⟩) 1 1) [(X : Int)] by rw [hWA]; exact oneOwn _ _ _ _ _ rfl (Nat.le_refl _)).below AL2 (Nat.le_refl _))
                        have O2 : Hid (OwnI 3 WB WA.heap.size (.slice (some ⟨w23.heap.size + 1, 0, none⟩) 1 1) [y]) := by rw [← hzA, hWB]; exact oneOwn _ _ _ _ _ rfl (Nat.le_refl _)
                        have BL6 := Lib.hid (BL5.out.trans ((AL1.trans (AL2.mono (by omega))).mono BL5.out.size))
                        have BA6 := Lib.hid ((BA5.out.below AL1 alt).below AL2 (by omega))
                        have BB6 := Lib.hid ((BB5.out.below AL1 blt).below AL2 (by omega))
                        obtain ⟨d0, d1, d2⟩ := Box.c (BA5.out.below AL1 alt)
                        obtain ⟨e0, e1, e2⟩ := Box.c (BB5.out.below AL1 blt)
                        obtain ⟨f0, f1, f2⟩ := Box.c BA6.out
                        obtain ⟨g0, g1, g2⟩ := Box.c BB6.out
                        rw [hWB, hWA] at f0 f1 f2 g0 g1 g2
                        rw [hWA] at d0 d1 d2 e0 e1 e2
                        have HWB := Lib.hid (hWB.trans (by rw [hWA]))
                        clear AL1 AL2 hzA hWA hWB BL5 BA5 BB5
                        go_wp2_with fail
                        rw [← HWB.out]
                        clear a0 a1 a2 b0 b1 b2 d0 d1 d2 e0 e1 e2 f0 f1 f2 g0 g1 g2 alt blt HWB
                        refine (HIP.out _ _ _ O1.out.reads O2.out.reads ⟨by decide, by decide⟩ ⟨by decide, by decide⟩).mono ?_
                        rintro eo w25 ⟨rfl, hb⟩
                        have BL7 := Lib.hid (BL6.out.trans (hb.mono BL6.out.size))
                        have BA7 := Lib.hid (BA6.out.below hb BA6.out.lt)
                        have BB7 := Lib.hid (BB6.out.below hb BB6.out.lt)
                        clear hb BL6 BA6 BB6 O1 O2
                        go_wp2
                        go_ret
                        exact ⟨rfl, BL7.out⟩
                      · have hl9 := HF.out.less rfl h0
                        have t9 : (rad == 0) = false := by simpa using h0
                        have t8 : decide ((0 : Int) < rad) = true := by simp; omega
                        obtain ⟨a0, a1, a2⟩ := Box.c BA3.out
                        obtain ⟨b0, b1, b2⟩ := Box.c BB3.out
                        go_wp2_with fail
                        clear a0 a1 a2 b0 b1 b2
                        have h := implSameBall_any N s r X m t q y (rad - 1) w9 (by omega) (by omega) (by omega) (by omega)
                        rw [hl9] at h
                        refine h.mono ?_
                        rintro eo w10 ⟨rfl, hb⟩
                        have BL4 := Lib.hid (BL3.out.trans (hb.mono BL3.out.size))
                        have BA4 := Lib.hid (BA3.out.below hb BA3.out.lt)
                        have BB4 := Lib.hid (BB3.out.below hb BB3.out.lt)
                        clear h hb BL3 BA3 BB3 hl9 h0
                        obtain ⟨a0, a1, a2⟩ := Box.c BA4.out
                        obtain ⟨b0, b1, b2⟩ := Box.c BB4.out
                        have alt := BA4.out.lt
                        have blt := BB4.out.lt
                        obtain ⟨WA, hWA⟩ : ∃ WA, WA = w10.alloc (.cells #[.int .i64 X] 3) := ⟨_, rfl⟩
                        obtain ⟨WB, hWB⟩ : ∃ WB, WB = WA.alloc (.cells #[.int .i64 y] 3) := ⟨_, rfl⟩
                        have AL1 : Below w10.heap.size w10 WA := by rw [hWA]; exact (Below.refl _ _).alloc (Nat.le_refl _) _
                        have AL2 : Below WA.heap.size WA WB := by rw [hWB]; exact (Below.refl _ _).alloc (Nat.le_refl _) _
                        have hzA : WA.heap.size = w10.heap.size + 1 := by rw [hWA]; simp
                        have O1 := Lib.hid ((show OwnI 3 WA w10.heap.size (.slice (some ⟨w10.heap.size, 0, none⟩) 1 1) [(X : Int)] by rw [hWA]; exact oneOwn _ _ _ _ _ rfl (Nat.le_refl _)).below AL2 (Nat.le_refl _))
                        have O2 : Hid (OwnI 3 WB WA.heap.size (.slice (some ⟨w10.heap.size + 1, 0, none⟩) 1 1) [y]) := by rw [← hzA, hWB]; exact oneOwn _ _ _ _ _ rfl (Nat.le_refl _)
                        have BL5 := Lib.hid (BL4.out.trans ((AL1.trans (AL2.mono (by omega))).mono BL4.out.size))
                        have BA5 := Lib.hid ((BA4.out.below AL1 alt).below AL2 (by omega))
                        have BB5 := Lib.hid ((BB4.out.below AL1 blt).below AL2 (by omega))
                        obtain ⟨d0, d1, d2⟩ := Box.c (BA4.out.below AL1 alt)
                        obtain ⟨e0, e1, e2⟩ := Box.c (BB4.out.below AL1 blt)
                        obtain ⟨f0, f1, f2⟩ := Box.c BA5.out
                        obtain ⟨g0, g1, g2⟩ := Box.c BB5.out
                        rw [hWB, hWA] at f0 f1 f2 g0 g1 g2
                        rw [hWA] at d0 d1 d2 e0 e1 e2
                        have HWB := Lib.hid (hWB.trans (by rw [hWA]))
                        clear AL1 AL2 hzA hWA hWB BL4 BA4 BB4
                        go_wp2_with fail
                        rw [← HWB.out]
                        clear a0 a1 a2 b0 b1 b2 d0 d1 d2 e0 e1 e2 f0 f1 f2 g0 g1 g2 alt blt HWB
                        refine (HIP.out _ _ _ O1.out.reads O2.out.reads ⟨by decide, by decide⟩ ⟨by decide, by decide⟩).mono ?_
                        rintro eo w24 ⟨rfl, hb⟩
                        have BL6 := Lib.hid (BL5.out.trans (hb.mono BL5.out.size))
                        have BA6 := Lib.hid (BA5.out.below hb BA5.out.lt)
                        have BB6 := Lib.hid (BB5.out.below hb BB5.out.lt)
                        clear hb BL5 BA5 BB5 O1 O2
                        go_wp2
                        go_ret
                        exact ⟨rfl, BL6.out⟩
end Go.Proofs.YtefneihlgclkbaaDoor.fnSballW
