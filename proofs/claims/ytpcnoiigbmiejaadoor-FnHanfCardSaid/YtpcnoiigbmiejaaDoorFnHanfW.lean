/- FnHanf: the walk. -/
import Derived.Test.YtpcnoiigbmiejaaDoorPkL
import Derived.Test.YtpcnoiigbmiejaaDoorPkQ
import Derived.Test.YtpcnoiigbmiejaaDoorPkI
import Derived.Test.YtpcnoiigbmiejaaDoorRadius
import Derived.Test.YtpcnoiigbmiejaaDoorRow
namespace Go.Proofs.YtpcnoiigbmiejaaDoor.fnHanfW
set_option linter.unusedVariables false
set_option linter.unusedSimpArgs false
open Go.ChangeShapes Go.WideShapes Go.ChangeAt Go.RowKit
open Go.Proofs.YtpcnoiigbmiejaaDoor.flow Go.Proofs.YtpcnoiigbmiejaaDoor.lib Go.Proofs.YtpcnoiigbmiejaaDoor.st Go.Proofs.YtpcnoiigbmiejaaDoor.draw Go.Proofs.YtpcnoiigbmiejaaDoor.base Go.Proofs.YtpcnoiigbmiejaaDoor.gow Go.Proofs.YtpcnoiigbmiejaaDoor.gox Go.Proofs.YtpcnoiigbmiejaaDoor.still Go.Proofs.YtpcnoiigbmiejaaDoor.game Go.Proofs.YtpcnoiigbmiejaaDoor.pairL Go.Proofs.YtpcnoiigbmiejaaDoor.ispart Go.Proofs.YtpcnoiigbmiejaaDoor.gob Go.Proofs.YtpcnoiigbmiejaaDoor.hanfb
/-- bytes that came in may be drawn from -/
theorem byt_of_row {w : World} {a : Option Addr} {n c : Nat} {zs : List Int} (h : row.IsRow .u8 w a n c zs) : Byt w w.heap.size a n ∧ n ≤ c ∧ c ≤ 9223372036854775807 := by
  rcases h with ⟨rfl, rfl, rfl, rfl⟩ | ⟨x, rfl, hl, hm, hz, hcell, hwf⟩
  · exact ⟨.inl rfl, Nat.le_refl _, by omega⟩
  · refine ⟨?_, hl, hm⟩
    by_cases h0 : n = 0
    · exact .inl h0
    · obtain ⟨b, off, spot⟩ := x
      have hc := hcell 0 (by omega)
      have hspot : spot = none := by simpa [Addr.add] using World.cell?_spot hc
      subst hspot
      have hlt := World.block_lt_of_cell? w _ hc
      refine .inr ⟨b, off, rfl, by simpa [Addr.add] using hlt, fun i hi => ?_⟩
      have hci := hcell i (by omega)
      have hw := hwf (zs.getD i 0) (by rw [List.getD_eq_getElem?_getD, List.getElem?_eq_getElem (by omega)]; exact List.getElem_mem _)
      have hb : 0 ≤ zs.getD i 0 ∧ zs.getD i 0 ≤ 255 := by
        generalize zs.getD i 0 = z at hw ⊢
        simp only [Lit.wf, IntKind.min, IntKind.max, IntKind.signed, IntKind.bits, Bool.and_eq_true, decide_eq_true_eq] at hw
        simp at hw
        omega
      refine ⟨(zs.getD i 0).toNat, by omega, ?_⟩
      rw [show (⟨b, off, none⟩ : Addr).add i = ⟨b, off + i, none⟩ from by simp only [Addr.add]; split <;> simp [*]] at hci
      rw [hci, show (((zs.getD i 0).toNat : Nat) : Int) = zs.getD i 0 from by omega]
theorem win_b {N R k : Nat} {s r t q : ByteArray} (h : Fact N s r t q R) (hk : rf k ≤ R) (k3 : k ≤ 3) : swnB N s r [] N t q [] k = true := by
  have hw := (win_iff (r := k) (N := N) (sa := s) (ra := r) (M := N) (sb := t) (rb := q) (la := []) (lb := []) rfl (fun x hx => by cases hx) (fun x hx => by cases hx)).2 (h.win k hk)
  have hok : okLs N s r [] N t q [] = true := by
    unfold okLs okL
    rw [h.va, h.vb]
    rfl
  unfold swnB gmB
  rw [hok]
  simp only [Bool.true_and, Bool.and_eq_true, decide_eq_true_eq]
  exact ⟨⟨by omega, by omega⟩, hw⟩
theorem sbs_b (n : Int) (s r : ByteArray) (m : Int) (t q : ByteArray) (rad : Int) (w : World) (hs : s.size ≤ 100) (hr : r.size ≤ 100) (ht : t.size ≤ 100) (hq : q.size ≤ 100) (b : Bool) (hb : sbs.sbsR n s r m t q rad = b) :
    Calls Tryd.prog 26 #[.agg #[.int .i64 n, .string s, .string r], .agg #[.int .i64 m, .string t, .string q], .int .i64 rad] w fun e w' => e = .returned (.bool b) ∧ Below w.heap.size w w' := by
  rw [← hb]; exact sbs.implSbs_any n s r m t q rad w (by omega) (by omega) (by omega) (by omega)
theorem sbs_c (n : Int) (s r : ByteArray) (m : Int) (t q : ByteArray) (rad : Int) (w : World) (hs : s.size ≤ 100) (hr : r.size ≤ 100) (ht : t.size ≤ 100) (hq : q.size ≤ 100) (b : Bool) (hb : sbs.sbsR n s r m t q rad = b) :
    Calls Tryd.prog 27 #[.agg #[.int .i64 n, .string s, .string r], .agg #[.int .i64 m, .string t, .string q], .int .i64 rad] w fun e w' => e = .returned (.bool b) ∧ Below w.heap.size w w' := by
  rw [← hb]; exact sbs.specSbs_any n s r m t q rad w (by omega) (by omega) (by omega) (by omega)

set_option maxHeartbeats 40000000 in
set_option maxRecDepth 100000 in
theorem walk (a0 : Option Addr) (n0 c0 : Nat) (l0 : List Int) (w : World) (h0 : row.IsRow .u8 w a0 n0 c0 l0) :
    Calls Tryd.prog 6 #[.slice a0 n0 c0] w fun e w' => e = .returned (.bool true) ∧ Below w.heap.size w w' := by
  obtain ⟨by0, nc0, cm0⟩ := byt_of_row h0
  have BY0 := Lib.hid by0
  clear by0
  clear h0
  by_cases hg0 : 1048576 < n0
  · go_enter Tryd.func6, Tryd.ntmps6
    go_wp2
    go_ret
    exact ⟨rfl, Below.refl _ _⟩
  go_enter Tryd.func6, Tryd.ntmps6
  have AW_0 : Hid (Below w.heap.size w w) := Below.refl _ _
  go_wp2_with fail
  refine (drawsb.drawSameBalls_any a0 n0 c0 _ BY0.out nc0 cm0).mono ?_
  rintro e w_1 ⟨n, s, r, m, t, q, rad, rfl, hnw, hs, hr, hmw, ht, hq, hrad, hb⟩
  have hbn := hb
  have AW_1 : Hid (Below w.heap.size w w_1) := AW_0.out.trans (hbn.mono AW_0.out.size)
  clear hbn AW_0 
  clear hb
  have FA_1 : Hid (Box 24 (w_1.alloc (.cells #[.int .i64 n, .string s, .string r] 24)) (w_1.heap.size) n s r) := Box.new _ w_1 (w_1.heap.size) (by simp) _ _ _
  have FA_1 := Lib.hid (FA_1.out.below ((Below.refl (w_1.heap.size + 1) _).alloc (by simp) (.cells #[.int .i64 m, .string t, .string q] 24)) (by omega))
  have FB_1 : Hid (Box 24 ((w_1.alloc (.cells #[.int .i64 n, .string s, .string r] 24)).alloc (.cells #[.int .i64 m, .string t, .string q] 24)) (w_1.heap.size + 1) m t q) := Box.new _ (w_1.alloc (.cells #[.int .i64 n, .string s, .string r] 24)) (w_1.heap.size + 1) (by simp) _ _ _
  cases hi : sbs.sbsR n s r m t q rad with
  | false =>
    have HI := Lib.hid hi
    clear hi
    obtain ⟨a0, a1, a2⟩ := Box.c FA_1.out
    obtain ⟨b0, b1, b2⟩ := Box.c FB_1.out
    go_wp2_with fail
    clear  a0 a1 a2 b0 b1 b2
    refine (sbs_b n s r m t q rad _ hs hr ht hq false HI.out).mono ?_
    rintro e w_2 ⟨rfl, hb⟩
    have hbn : Below w_1.heap.size w_1 w_2 := (((Below.refl w_1.heap.size w_1).alloc (by simp) (.cells #[.int .i64 n, .string s, .string r] 24)).alloc (by simp) (.cells #[.int .i64 m, .string t, .string q] 24)).trans (hb.mono (show w_1.heap.size ≤ _ by simp <;> omega))
    have FA_2 := Lib.hid (FA_1.out.below hb (by simp <;> omega))
    have FB_2 := Lib.hid (FB_1.out.below hb (by simp <;> omega))
    have AW_2 : Hid (Below w.heap.size w w_2) := AW_1.out.trans (hbn.mono AW_1.out.size)
    clear hbn AW_1 FA_1 FB_1
    clear hb
    obtain ⟨a0, a1, a2⟩ := Box.c FA_2.out
    obtain ⟨b0, b1, b2⟩ := Box.c FB_2.out
    go_wp2_with fail
    clear  a0 a1 a2 b0 b1 b2
    refine (sbs_c n s r m t q rad _ hs hr ht hq false HI.out).mono ?_
    rintro e w_3 ⟨rfl, hb⟩
    have hbn := hb
    have FA_3 := Lib.hid (FA_2.out.below hbn FA_2.out.lt)
    have FB_3 := Lib.hid (FB_2.out.below hbn FB_2.out.lt)
    have AW_3 : Hid (Below w.heap.size w w_3) := AW_2.out.trans (hbn.mono AW_2.out.size)
    clear hbn AW_2 FA_2 FB_2
    clear hb
    obtain ⟨a0, a1, a2⟩ := Box.c FA_3.out
    obtain ⟨b0, b1, b2⟩ := Box.c FB_3.out
    go_wp2_with fail
    clear  a0 a1 a2 b0 b1 b2
    refine (sbs_c n s r m t q rad _ hs hr ht hq false HI.out).mono ?_
    rintro e w_4 ⟨rfl, hb⟩
    have hbn := hb
    have FA_4 := Lib.hid (FA_3.out.below hbn FA_3.out.lt)
    have FB_4 := Lib.hid (FB_3.out.below hbn FB_3.out.lt)
    have AW_4 : Hid (Below w.heap.size w w_4) := AW_3.out.trans (hbn.mono AW_3.out.size)
    clear hbn AW_3 FA_3 FB_3
    clear hb
    go_wp2
    go_ret
    exact ⟨rfl, AW_4.out⟩
  | true =>
    have HI := Lib.hid hi
    clear hi
    obtain ⟨a0, a1, a2⟩ := Box.c FA_1.out
    obtain ⟨b0, b1, b2⟩ := Box.c FB_1.out
    go_wp2_with fail
    clear  a0 a1 a2 b0 b1 b2
    refine (sbs_b n s r m t q rad _ hs hr ht hq true HI.out).mono ?_
    rintro e w_2 ⟨rfl, hb⟩
    have hbn : Below w_1.heap.size w_1 w_2 := (((Below.refl w_1.heap.size w_1).alloc (by simp) (.cells #[.int .i64 n, .string s, .string r] 24)).alloc (by simp) (.cells #[.int .i64 m, .string t, .string q] 24)).trans (hb.mono (show w_1.heap.size ≤ _ by simp <;> omega))
    have FA_2 := Lib.hid (FA_1.out.below hb (by simp <;> omega))
    have FB_2 := Lib.hid (FB_1.out.below hb (by simp <;> omega))
    have AW_2 : Hid (Below w.heap.size w w_2) := AW_1.out.trans (hbn.mono AW_1.out.size)
    clear hbn AW_1 FA_1 FB_1
    clear hb
    obtain ⟨a0, a1, a2⟩ := Box.c FA_2.out
    obtain ⟨b0, b1, b2⟩ := Box.c FB_2.out
    go_wp2_with fail
    clear  a0 a1 a2 b0 b1 b2
    refine (sbs_c n s r m t q rad _ hs hr ht hq true HI.out).mono ?_
    rintro e w_3 ⟨rfl, hb⟩
    have hbn := hb
    have FA_3 := Lib.hid (FA_2.out.below hbn FA_2.out.lt)
    have FB_3 := Lib.hid (FB_2.out.below hbn FB_2.out.lt)
    have AW_3 : Hid (Below w.heap.size w w_3) := AW_2.out.trans (hbn.mono AW_2.out.size)
    clear hbn AW_2 FA_2 FB_2
    clear hb
    obtain ⟨N, R, hnN, hmN, hrR, hf⟩ := hanfb.fact HI.out
    have HF := Lib.hid hf
    have hn8 := hf.n8
    have hR100 := hf.r100
    have hnn := Lib.hid hnN
    have hmm := Lib.hid hmN
    have hrr := Lib.hid hrR
    clear hf
    subst hnN hmN hrR
    have HS0 : Hid (Below w.heap.size w w_3 ∧ Box 24 w_3 w_1.heap.size N s r ∧ Box 24 w_3 (w_1.heap.size + 1) N t q) := ⟨AW_3.out, FA_3.out, FB_3.out⟩
    have HSW : Hid (∀ k : Nat, k ≤ 3 → rf k ≤ R → ∀ W, Calls Tryd.prog 10 #[.agg #[.int .i64 N, .string s, .string r], .agg #[.int .i64 N, .string t, .string q], .int .i64 k] W fun e w' => e = .returned (.bool true) ∧ Below W.heap.size W w') := fun k hk3 hk W => by
      have h := implSameRank_any N s r N t q k W (by omega) (by omega) (by omega) (by omega)
      rw [win_b HF.out hk hk3] at h
      exact h
    have HR0 : Hid (∀ W, Calls Tryd.prog 28 #[.int .i64 0] W fun e w' => e = .returned (.int .i64 0) ∧ W = w') := fun W => radius.impl_any 0 W
    have HR1 : Hid (∀ W, Calls Tryd.prog 28 #[.int .i64 1] W fun e w' => e = .returned (.int .i64 1) ∧ W = w') := fun W => radius.impl_any 1 W
    have HR2 : Hid (∀ W, Calls Tryd.prog 28 #[.int .i64 2] W fun e w' => e = .returned (.int .i64 4) ∧ W = w') := fun W => radius.impl_any 2 W
    clear AW_3 FA_3 FB_3 hnn hmm hrr
    go_wp2_with fail
    go_loopw [7] (fun i wr => ∃ k : Nat, k ≤ 3 ∧ i = .int .i64 k ∧ Hid (Below w.heap.size w wr ∧ Box 24 wr w_1.heap.size N s r ∧ Box 24 wr (w_1.heap.size + 1) N t q)) (fun i _ => 3 - (intOf i).toNat)
    case atStart => exact ⟨0, Nat.zero_le _, rfl, HS0.out⟩
    case round =>
      clear HS0
      obtain ⟨k, hk3, rfl, HS⟩ := hrel
      obtain rfl | rfl | rfl | rfl : k = 0 ∨ k = 1 ∨ k = 2 ∨ k = 3 := by omega
      · have HC : Hid (rf 0 ≤ R) := Nat.zero_le _
        obtain ⟨a0, a1, a2⟩ := HS.out.2.1.c
        obtain ⟨b0, b1, b2⟩ := HS.out.2.2.c
        go_wp2_with fail
        refine (HR0.out _).mono ?_
        rintro eo w1 ⟨rfl, rfl⟩
        go_wp2_with fail
        refine (HSW.out 0 (by decide) HC.out _).mono ?_
        rintro eo w1 ⟨rfl, hb⟩
        have HS2 : Hid (Below w.heap.size w w1 ∧ Box 24 w1 w_1.heap.size N s r ∧ Box 24 w1 (w_1.heap.size + 1) N t q) := ⟨HS.out.1.trans (hb.mono HS.out.1.size), HS.out.2.1.below hb HS.out.2.1.lt, HS.out.2.2.below hb HS.out.2.2.lt⟩
        clear hb a0 a1 a2 b0 b1 b2
        go_wp2
        go_roundw
        case rel => exact ⟨1, by omega, rfl, HS2⟩
        case measure => simp [intOf]
      · by_cases hc : 1 ≤ R
        · have HC : Hid (rf 1 ≤ R) := hc
          have t1 : decide ((1 : Int) ≤ (R : Int)) = true := by simp; omega
          have t2 : decide (1 ≤ R) = true := by simp; omega
          obtain ⟨a0, a1, a2⟩ := HS.out.2.1.c
          obtain ⟨b0, b1, b2⟩ := HS.out.2.2.c
          go_wp2_with fail
          refine (HR1.out _).mono ?_
          rintro eo w1 ⟨rfl, rfl⟩
          go_wp2_with fail
          refine (HSW.out 1 (by decide) HC.out _).mono ?_
          rintro eo w1 ⟨rfl, hb⟩
          have HS2 : Hid (Below w.heap.size w w1 ∧ Box 24 w1 w_1.heap.size N s r ∧ Box 24 w1 (w_1.heap.size + 1) N t q) := ⟨HS.out.1.trans (hb.mono HS.out.1.size), HS.out.2.1.below hb HS.out.2.1.lt, HS.out.2.2.below hb HS.out.2.2.lt⟩
          clear hb a0 a1 a2 b0 b1 b2
          go_wp2
          go_roundw
          case rel => exact ⟨2, by omega, rfl, HS2⟩
          case measure => simp [intOf]
        · have t1 : decide ((1 : Int) ≤ (R : Int)) = false := by simp; omega
          have t2 : decide (1 ≤ R) = false := by simp; omega
          obtain ⟨a0, a1, a2⟩ := HS.out.2.1.c
          obtain ⟨b0, b1, b2⟩ := HS.out.2.2.c
          go_wp2_with fail
          refine (HR1.out _).mono ?_
          rintro eo w1 ⟨rfl, rfl⟩
          clear a0 a1 a2 b0 b1 b2
          go_wp2
          go_roundw
          case rel => exact ⟨2, by omega, rfl, HS⟩
          case measure => simp [intOf]
      · by_cases hc : 4 ≤ R
        · have HC : Hid (rf 2 ≤ R) := hc
          have t1 : decide ((4 : Int) ≤ (R : Int)) = true := by simp; omega
          have t2 : decide (4 ≤ R) = true := by simp; omega
          obtain ⟨a0, a1, a2⟩ := HS.out.2.1.c
          obtain ⟨b0, b1, b2⟩ := HS.out.2.2.c
          go_wp2_with fail
          refine (HR2.out _).mono ?_
          rintro eo w1 ⟨rfl, rfl⟩
          go_wp2_with fail
          refine (HSW.out 2 (by decide) HC.out _).mono ?_
          rintro eo w1 ⟨rfl, hb⟩
          have HS2 : Hid (Below w.heap.size w w1 ∧ Box 24 w1 w_1.heap.size N s r ∧ Box 24 w1 (w_1.heap.size + 1) N t q) := ⟨HS.out.1.trans (hb.mono HS.out.1.size), HS.out.2.1.below hb HS.out.2.1.lt, HS.out.2.2.below hb HS.out.2.2.lt⟩
          clear hb a0 a1 a2 b0 b1 b2
          go_wp2
          go_roundw
          case rel => exact ⟨3, by omega, rfl, HS2⟩
          case measure => simp [intOf]
        · have t1 : decide ((4 : Int) ≤ (R : Int)) = false := by simp; omega
          have t2 : decide (4 ≤ R) = false := by simp; omega
          obtain ⟨a0, a1, a2⟩ := HS.out.2.1.c
          obtain ⟨b0, b1, b2⟩ := HS.out.2.2.c
          go_wp2_with fail
          refine (HR2.out _).mono ?_
          rintro eo w1 ⟨rfl, rfl⟩
          clear a0 a1 a2 b0 b1 b2
          go_wp2
          go_roundw
          case rel => exact ⟨3, by omega, rfl, HS⟩
          case measure => simp [intOf]
      · have HB2 := Lib.hid (fun W => sbs_b N t q N s r R W ht hq hs hr true HF.out.turned)
        obtain ⟨z, hz⟩ : ∃ z, z = radius.radR ((n0 : Int) % 6) := ⟨_, rfl⟩
        have HRI : Hid (∀ W, Calls Tryd.prog 28 #[.int .i64 ((n0 : Int) % 6)] W fun e w' => e = .returned (.int .i64 z) ∧ W = w') := fun W => by rw [hz]; exact radius.impl_any _ W
        have HRS : Hid (∀ W, Calls Tryd.prog 29 #[.int .i64 ((n0 : Int) % 6)] W fun e w' => e = .returned (.int .i64 z) ∧ W = w') := fun W => by rw [hz]; exact radius.spec_any _ W
        clear hz
        obtain ⟨a0, a1, a2⟩ := HS.out.2.1.c
        obtain ⟨b0, b1, b2⟩ := HS.out.2.2.c
        go_wp2_with fail
        refine (HB2.out _).mono ?_
        rintro eo w1 ⟨rfl, hb⟩
        have HS1 : Hid (Below w.heap.size w w1 ∧ Box 24 w1 w_1.heap.size N s r ∧ Box 24 w1 (w_1.heap.size + 1) N t q) := ⟨HS.out.1.trans (hb.mono HS.out.1.size), HS.out.2.1.below hb HS.out.2.1.lt, HS.out.2.2.below hb HS.out.2.2.lt⟩
        clear hb a0 a1 a2 b0 b1 b2
        by_cases h0 : R = 0
        · have e0 : ((R : Int) == 0) = true := by simp; omega
          clear h0
          go_wp2_with fail
          refine (HRI.out _).mono ?_
          rintro eo w2 ⟨rfl, rfl⟩
          go_wp2_with fail
          refine (HRS.out _).mono ?_
          rintro eo w2 ⟨rfl, rfl⟩
          go_wp2
          go_ret
          exact ⟨rfl, HS1.out.1⟩
        · have e0 : ((R : Int) == 0) = false := by simp; omega
          have hw1 : IntKind.i64.wrap ((R : Int) - 1) = (R : Int) - 1 := IntWalk.i64_in _ (by omega)
          have HB3 := Lib.hid (fun W => sbs_b N s r N t q ((R : Int) - 1) W hs hr ht hq true (HF.out.less h0))
          clear h0
          obtain ⟨a0, a1, a2⟩ := HS1.out.2.1.c
          obtain ⟨b0, b1, b2⟩ := HS1.out.2.2.c
          go_wp2_with fail
          refine (HB3.out _).mono ?_
          rintro eo w2 ⟨rfl, hb⟩
          have HB9 := Lib.hid (HS1.out.1.trans (hb.mono HS1.out.1.size))
          clear hb a0 a1 a2 b0 b1 b2
          go_wp2_with fail
          refine (HRI.out _).mono ?_
          rintro eo w3 ⟨rfl, rfl⟩
          go_wp2_with fail
          refine (HRS.out _).mono ?_
          rintro eo w3 ⟨rfl, rfl⟩
          go_wp2
          go_ret
          exact ⟨rfl, HB9.out⟩
end Go.Proofs.YtpcnoiigbmiejaaDoor.fnHanfW
