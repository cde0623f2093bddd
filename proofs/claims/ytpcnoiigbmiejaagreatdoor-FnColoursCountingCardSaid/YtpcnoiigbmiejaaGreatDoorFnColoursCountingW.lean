/- FnColoursCounting: the walk. -/
import Derived.Test.YtpcnoiigbmiejaaGreatDoorPkK
import Derived.Test.YtpcnoiigbmiejaaGreatDoorPkX
import Derived.Test.YtpcnoiigbmiejaaGreatDoorPkZ
import Derived.Test.YtpcnoiigbmiejaaGreatDoorPkE
import Derived.Test.YtpcnoiigbmiejaaGreatDoorInRel
import Derived.Test.YtpcnoiigbmiejaaGreatDoorRow
namespace Go.Proofs.YtpcnoiigbmiejaaGreatDoor.fnColoursCountingW
set_option linter.unusedVariables false
set_option linter.unusedSimpArgs false
open Go.ChangeShapes Go.WideShapes Go.ChangeAt Go.RowKit
open Go.Proofs.YtpcnoiigbmiejaaGreatDoor.flow Go.Proofs.YtpcnoiigbmiejaaGreatDoor.lib Go.Proofs.YtpcnoiigbmiejaaGreatDoor.st Go.Proofs.YtpcnoiigbmiejaaGreatDoor.draw Go.Proofs.YtpcnoiigbmiejaaGreatDoor.base Go.Proofs.YtpcnoiigbmiejaaGreatDoor.chain Go.Proofs.YtpcnoiigbmiejaaGreatDoor.col Go.Proofs.YtpcnoiigbmiejaaGreatDoor.colp Go.Proofs.YtpcnoiigbmiejaaGreatDoor.both Go.Proofs.YtpcnoiigbmiejaaGreatDoor.specd Go.Proofs.YtpcnoiigbmiejaaGreatDoor.coli Go.Proofs.YtpcnoiigbmiejaaGreatDoor.colj Go.Proofs.YtpcnoiigbmiejaaGreatDoor.cole Go.Proofs.YtpcnoiigbmiejaaGreatDoor.colq Go.Proofs.YtpcnoiigbmiejaaGreatDoor.less Go.Proofs.YtpcnoiigbmiejaaGreatDoor.drawp Go.Proofs.YtpcnoiigbmiejaaGreatDoor.pbi Go.Proofs.YtpcnoiigbmiejaaGreatDoor.peb Go.Proofs.YtpcnoiigbmiejaaGreatDoor.tab
/-- bytes that came in may be drawn from -/
theorem byt_of_row {w : World} {a : Option Addr} {n c : Nat} {zs : List Int} (h : row.IsRow .u8 w a n c zs) : Byt w w.heap.size a n ∧ n ≤ c ∧ c ≤ 9223372036854775807 := by
  rcases h with ⟨rfl, rfl, rfl, rfl⟩ | ⟨x, rfl, hl, hm, hz, hcell, hwf⟩
  · exact ⟨.inl rfl, Nat.le_refl _, by omega⟩
  · refine ⟨?_, hl, hm⟩
    by_cases h0 : n = 0
    · exact .inl h0
    · obtain ⟨b, off, spot⟩ := x
      have hc := hcell 0 (by omega)
      have hspot : spot = none := by simpa [Addr.add] using World.cell?_spot hc
      subst hspot
      have hlt := World.block_lt_of_cell? w _ hc
      refine .inr ⟨b, off, rfl, by simpa [Addr.add] using hlt, fun i hi => ?_⟩
      have hci := hcell i (by omega)
      have hw := hwf (zs.getD i 0) (by rw [List.getD_eq_getElem?_getD, List.getElem?_eq_getElem (by omega)]; exact List.getElem_mem _)
      have hb : 0 ≤ zs.getD i 0 ∧ zs.getD i 0 ≤ 255 := by
        generalize zs.getD i 0 = z at hw ⊢
        simp only [Lit.wf, IntKind.min, IntKind.max, IntKind.signed, IntKind.bits, Bool.and_eq_true, decide_eq_true_eq] at hw
        simp at hw
        omega
      refine ⟨(zs.getD i 0).toNat, by omega, ?_⟩
      rw [show (⟨b, off, none⟩ : Addr).add i = ⟨b, off + i, none⟩ from by simp only [Addr.add]; split <;> simp [*]] at hci
      rw [hci, show (((zs.getD i 0).toNat : Nat) : Int) = zs.getD i 0 from by omega]

theorem val_b (n : Int) (s r : ByteArray) (w : World) (hs : s.size ≤ 9223372036854775807) (hr : r.size ≤ 9223372036854775807) (b : Bool) (hb : validB n s r = b) :
    Calls Tryz.prog 10 #[.agg #[.int .i64 n, .string s, .string r]] w fun e w' => e = .returned (.bool b) ∧ Below w.heap.size w w' := by
  rw [← hb]; exact inrel.implValid_any n s r w hs hr
theorem cols_end {As : List St} (h : 0 < total As) {k : Nat} (hk : total As ≤ k) : cols As k = cols As (total As) := by
  have hx : ∃ j, j < total As ∧ most (cols As j) = most (cols As (j + 1)) := by
    refine Classical.byContradiction fun hn => ?_
    have a := most_grow h (total As) fun j hj e => hn ⟨j, hj, e⟩
    have b := cols_most_le As (total As)
    omega
  obtain ⟨j, hj, e⟩ := hx
  have st := cols_stay (cols_stop h e)
  have e1 := st (k - j)
  have e2 := st (total As - j)
  rw [show j + (k - j) = k by omega] at e1
  rw [show j + (total As - j) = total As by omega] at e2
  rw [e1, e2]
/-- the same colours: the second player never loses the counting game with two pebbles -/
theorem fact {N M : Nat} {s r t q : ByteArray} (h1 : validB N s r = true) (h2 : validB M t q = true) : sameR N s r M t q = true ↔ ∀ k, gameW true (gob.gr N s r) (gob.gr M t q) k [0, 0] [0, 0] := by
  have hn := (validB_iff.1 h1).1
  have e : sameR N s r M t q = sameAt ⟨N, s, r⟩ ⟨M, t, q⟩ (N + M) := by unfold sameR; rw [h1, h2]; rfl
  have ht : 0 < total [(⟨N, s, r⟩ : St), ⟨M, t, q⟩] := by simp [total]; omega
  rw [e]
  refine Iff.trans ?_ (same_iff (a := ⟨N, s, r⟩) (b := ⟨M, t, q⟩))
  refine ⟨fun h k => ?_, fun h => h _⟩
  have htot : total [(⟨N, s, r⟩ : St), ⟨M, t, q⟩] = N + M := by simp [total]
  rcases Nat.le_total k (N + M) with z | z
  · exact sameAt_down z h
  · have e1 := cols_end ht (k := k) (by omega)
    have e2 := cols_end ht (k := N + M) (by omega)
    unfold sameAt at h ⊢
    rw [e1]
    rw [e2] at h
    exact h
theorem beside_ready {n m : Int} {s r t q : ByteArray} (h1 : validB n s r = true) (h2 : validB m t q = true) : readyB n s r [-1, -1] m t q [-1, -1] = true := by
  have hn := (validB_iff.1 h1).1
  have hm := (validB_iff.1 h2).1
  have p : ∀ z : Int, 1 ≤ z → pebB z [-1, -1] = true := fun z hz => by
    unfold pebB
    have : pbIn z (-1) = true := decide_eq_true (by omega)
    simp [this]
  unfold readyB
  rw [h1, h2, p n hn.1, p m hm.1]
  have : signB [-1, -1] [-1, -1] = true := decide_eq_true fun i _ => Iff.rfl
  rw [this]; rfl
theorem games_same {n m : Int} {s r t q : ByteArray} {b1 : Bool} (h1 : validB n s r = true) (h2 : validB m t q = true) (hb : b1 = true ↔ readyB n s r [-1, -1] m t q [-1, -1] = true ∧ ∀ k, gameW true (gob.gr n.toNat s r) (gob.gr m.toNat t q) k (plc [-1, -1]) (plc [-1, -1])) : b1 = sameR n s r m t q := by
  obtain ⟨N, rfl⟩ : ∃ N : Nat, n = (N : Int) := ⟨n.toNat, by have := (validB_iff.1 h1).1; omega⟩
  obtain ⟨M, rfl⟩ : ∃ M : Nat, m = (M : Int) := ⟨m.toNat, by have := (validB_iff.1 h2).1; omega⟩
  have hf := fact h1 h2
  have hr := beside_ready h1 h2
  refine Bool.eq_iff_iff.2 (hb.trans ((and_iff_right hr).trans ?_))
  exact hf.symm
theorem games_weak {n m : Int} {s r t q : ByteArray} {b1 : Bool} (h1 : validB n s r = true) (h2 : validB m t q = true) (hs : sameR n s r m t q = true) (hb : b1 = true ↔ readyB n s r [-1, -1] m t q [-1, -1] = true ∧ ∀ k, gameW false (gob.gr n.toNat s r) (gob.gr m.toNat t q) k (plc [-1, -1]) (plc [-1, -1])) : b1 = true := by
  obtain ⟨N, rfl⟩ : ∃ N : Nat, n = (N : Int) := ⟨n.toNat, by have := (validB_iff.1 h1).1; omega⟩
  obtain ⟨M, rfl⟩ : ∃ M : Nat, m = (M : Int) := ⟨m.toNat, by have := (validB_iff.1 h2).1; omega⟩
  have hf := (fact h1 h2).1 hs
  exact hb.2 ⟨beside_ready h1 h2, fun k => Cw.pw (hf k)⟩
theorem reads_two (W : World) (a b : Int) : Reads (W.alloc (.cells #[.int .i64 a, .int .i64 b] 3)) (.slice (some ⟨W.heap.size, 0, none⟩) 2 2) [a, b] := by
  refine ⟨_, _, rfl, .inr ⟨_, 0, rfl, fun i hi => ?_⟩, fun h => by cases h⟩
  have h := heap_alloc_new W (.cells #[.int .i64 a, .int .i64 b] 3)
  rw [Nat.zero_add, cell_of_row _ _ i _ _ (0, 0) h]
  match i, hi with
  | 0, _ => rfl
  | 1, _ => rfl

set_option maxHeartbeats 40000000 in
set_option maxRecDepth 100000 in
theorem walk (a0 : Option Addr) (n0 c0 : Nat) (l0 : List Int) (w : World) (h0 : row.IsRow .u8 w a0 n0 c0 l0) :
    Calls Tryz.prog 3 #[.slice a0 n0 c0] w fun e w' => e = .returned (.bool true) ∧ Below w.heap.size w w' := by
  obtain ⟨by0, nc0, cm0⟩ := byt_of_row h0
  have BY0 := Lib.hid by0
  clear by0
  clear h0
  by_cases hg0 : 1048576 < n0
  · go_enter Tryz.func3, Tryz.ntmps3
    go_wp2
    go_ret
    exact ⟨rfl, Below.refl _ _⟩
  go_enter Tryz.func3, Tryz.ntmps3
  have AW_0 : Hid (Below w.heap.size w w) := Below.refl _ _
  go_wp2_with fail
  refine (drawSame_any a0 n0 c0 _ BY0.out nc0 cm0).mono ?_
  rintro e w_1 ⟨n, s, r, m, t, q, rfl, hnw, hs, hr, hmw, ht, hq, hb⟩
  have hbn := hb
  have AW_1 : Hid (Below w.heap.size w w_1) := AW_0.out.trans (hbn.mono AW_0.out.size)
  clear hbn AW_0 
  have FA_1 : Hid (Box 24 (w_1.alloc (.cells #[.int .i64 n, .string s, .string r] 24)) (w_1.heap.size) n s r) := Box.new _ w_1 (w_1.heap.size) (by simp) _ _ _
  have FA_1 := Lib.hid (FA_1.out.below ((Below.refl (w_1.heap.size + 1) _).alloc (by simp) (.cells #[.int .i64 m, .string t, .string q] 24)) (by omega))
  have FB_1 : Hid (Box 24 ((w_1.alloc (.cells #[.int .i64 n, .string s, .string r] 24)).alloc (.cells #[.int .i64 m, .string t, .string q] 24)) (w_1.heap.size + 1) m t q) := Box.new _ (w_1.alloc (.cells #[.int .i64 n, .string s, .string r] 24)) (w_1.heap.size + 1) (by simp) _ _ _
  clear hb hnw hmw
  obtain ⟨is, his⟩ : ∃ z, z = sameR n s r m t q := ⟨_, rfl⟩
  have HK := Lib.hid his
  clear his
  obtain ⟨a0, a1, a2⟩ := Box.c FA_1.out
  obtain ⟨b0, b1, b2⟩ := Box.c FB_1.out
  go_wp2_with fail
  clear  a0 a1 a2 b0 b1 b2
  refine (implSameColours_any n s r m t q _ (by omega) (by omega) (by omega) (by omega)).mono ?_
  rintro e w_2 ⟨rfl, hb⟩
  have hbn : Below w_1.heap.size w_1 w_2 := (((Below.refl w_1.heap.size w_1).alloc (by simp) (.cells #[.int .i64 n, .string s, .string r] 24)).alloc (by simp) (.cells #[.int .i64 m, .string t, .string q] 24)).trans (hb.mono (show w_1.heap.size ≤ _ by simp <;> omega))
  have FA_2 := Lib.hid (FA_1.out.below hb (by simp <;> omega))
  have FB_2 := Lib.hid (FB_1.out.below hb (by simp <;> omega))
  have AW_2 : Hid (Below w.heap.size w w_2) := AW_1.out.trans (hbn.mono AW_1.out.size)
  clear hbn AW_1 FA_1 FB_1
  rw [← HK.out]
  clear hb
  obtain ⟨a0, a1, a2⟩ := Box.c FA_2.out
  obtain ⟨b0, b1, b2⟩ := Box.c FB_2.out
  go_wp2_with fail
  clear  a0 a1 a2 b0 b1 b2
  refine (specSameColours_any n s r m t q _ (by omega) (by omega) (by omega) (by omega)).mono ?_
  rintro e w_3 ⟨rfl, hb⟩
  have hbn := hb
  have FA_3 := Lib.hid (FA_2.out.below hbn FA_2.out.lt)
  have FB_3 := Lib.hid (FB_2.out.below hbn FB_2.out.lt)
  have AW_3 : Hid (Below w.heap.size w w_3) := AW_2.out.trans (hbn.mono AW_2.out.size)
  clear hbn AW_2 FA_2 FB_2
  rw [← HK.out]
  clear hb
  have tI : (is == is) = true := by simp
  have tN : (is != is) = false := by simp
  cases hv : validB n s r with
  | false =>
    have HV := Lib.hid hv
    clear hv
    obtain ⟨a0, a1, a2⟩ := Box.c FA_3.out
    go_wp2_with fail
    clear  a0 a1 a2
    refine (val_b n s r _ (by omega) (by omega) false HV.out).mono ?_
    rintro e w_4 ⟨rfl, hb⟩
    have hbn := hb
    have FA_4 := Lib.hid (FA_3.out.below hbn FA_3.out.lt)
    have FB_4 := Lib.hid (FB_3.out.below hbn FB_3.out.lt)
    have AW_4 : Hid (Below w.heap.size w w_4) := AW_3.out.trans (hbn.mono AW_3.out.size)
    clear hbn AW_3 FA_3 FB_3
    clear hb
    obtain ⟨a0, a1, a2⟩ := Box.c FA_4.out
    obtain ⟨b0, b1, b2⟩ := Box.c FB_4.out
    go_wp2_with fail
    clear  a0 a1 a2 b0 b1 b2
    refine (specSameColours_any n s r m t q _ (by omega) (by omega) (by omega) (by omega)).mono ?_
    rintro e w_5 ⟨rfl, hb⟩
    have hbn := hb
    have FA_5 := Lib.hid (FA_4.out.below hbn FA_4.out.lt)
    have FB_5 := Lib.hid (FB_4.out.below hbn FB_4.out.lt)
    have AW_5 : Hid (Below w.heap.size w w_5) := AW_4.out.trans (hbn.mono AW_4.out.size)
    clear hbn AW_4 FA_4 FB_4
    rw [← HK.out]
    clear hb
    go_wp2
    go_ret
    exact ⟨rfl, AW_5.out⟩
  | true =>
    have HV := Lib.hid hv
    clear hv
    obtain ⟨a0, a1, a2⟩ := Box.c FA_3.out
    go_wp2_with fail
    clear  a0 a1 a2
    refine (val_b n s r _ (by omega) (by omega) true HV.out).mono ?_
    rintro e w_4 ⟨rfl, hb⟩
    have hbn := hb
    have FA_4 := Lib.hid (FA_3.out.below hbn FA_3.out.lt)
    have FB_4 := Lib.hid (FB_3.out.below hbn FB_3.out.lt)
    have AW_4 : Hid (Below w.heap.size w w_4) := AW_3.out.trans (hbn.mono AW_3.out.size)
    clear hbn AW_3 FA_3 FB_3
    clear hb
    cases hu : validB m t q with
    | false =>
      have HU := Lib.hid hu
      clear hu
      obtain ⟨b0, b1, b2⟩ := Box.c FB_4.out
      go_wp2_with fail
      clear  b0 b1 b2
      refine (val_b m t q _ (by omega) (by omega) false HU.out).mono ?_
      rintro e w_5 ⟨rfl, hb⟩
      have hbn := hb
      have FA_5 := Lib.hid (FA_4.out.below hbn FA_4.out.lt)
      have FB_5 := Lib.hid (FB_4.out.below hbn FB_4.out.lt)
      have AW_5 : Hid (Below w.heap.size w w_5) := AW_4.out.trans (hbn.mono AW_4.out.size)
      clear hbn AW_4 FA_4 FB_4
      clear hb
      obtain ⟨a0, a1, a2⟩ := Box.c FA_5.out
      obtain ⟨b0, b1, b2⟩ := Box.c FB_5.out
      go_wp2_with fail
      clear  a0 a1 a2 b0 b1 b2
      refine (specSameColours_any n s r m t q _ (by omega) (by omega) (by omega) (by omega)).mono ?_
      rintro e w_6 ⟨rfl, hb⟩
      have hbn := hb
      have FA_6 := Lib.hid (FA_5.out.below hbn FA_5.out.lt)
      have FB_6 := Lib.hid (FB_5.out.below hbn FB_5.out.lt)
      have AW_6 : Hid (Below w.heap.size w w_6) := AW_5.out.trans (hbn.mono AW_5.out.size)
      clear hbn AW_5 FA_5 FB_5
      rw [← HK.out]
      clear hb
      go_wp2
      go_ret
      exact ⟨rfl, AW_6.out⟩
    | true =>
      have HU := Lib.hid hu
      clear hu
      obtain ⟨b0, b1, b2⟩ := Box.c FB_4.out
      go_wp2_with fail
      clear  b0 b1 b2
      refine (val_b m t q _ (by omega) (by omega) true HU.out).mono ?_
      rintro e w_5 ⟨rfl, hb⟩
      have hbn := hb
      have FA_5 := Lib.hid (FA_4.out.below hbn FA_4.out.lt)
      have FB_5 := Lib.hid (FB_4.out.below hbn FB_4.out.lt)
      have AW_5 : Hid (Below w.heap.size w w_5) := AW_4.out.trans (hbn.mono AW_4.out.size)
      clear hbn AW_4 FA_4 FB_4
      clear hb
      obtain ⟨w_50, hw50⟩ : ∃ w_50, w_50 = w_5.alloc (.cells #[.int .i64 (-1), .int .i64 (-1)] 3) := ⟨_, rfl⟩
      have hb50 : Below w_5.heap.size w_5 w_50 := by rw [hw50]; exact (Below.refl _ _).alloc (Nat.le_refl _) _
      obtain ⟨gl, hgl⟩ : ∃ gl, gl = w_5.heap.size := ⟨_, rfl⟩
      have HL50 : Hid (Reads w_50 (.slice (some ⟨gl, 0, none⟩) 2 2) [-1, -1]) := by
        rw [hw50, hgl]
        exact reads_two w_5 (-1) (-1)
      have AW_50 : Hid (Below w.heap.size w w_50) := AW_5.out.trans (hb50.mono AW_5.out.size)
      have FA_50 := Lib.hid (FA_5.out.below hb50 FA_5.out.lt)
      have FB_50 := Lib.hid (FB_5.out.below hb50 FB_5.out.lt)
      have HW50 := Lib.hid hw50
      have HGL := Lib.hid hgl
      clear hw50 hb50 hgl
      go_upto_region 8 with (fail)
      rw [← HW50.out, ← HGL.out]
      clear HW50 HGL AW_5 FA_5 FB_5
      obtain ⟨a0, a1, a2⟩ := Box.c FA_50.out
      obtain ⟨b0, b1, b2⟩ := Box.c FB_50.out
      go_wp2_with fail
      clear  a0 a1 a2 b0 b1 b2
      refine (cEver_any n s r _ [-1, -1] m t q _ [-1, -1] _ HL50.out HL50.out (by decide) (by decide) (by omega) (by omega) (by omega) (by omega)).mono ?_
      rintro e w_51 ⟨b1, rfl, hb1, hb⟩
      have hbn := hb
      have FA_51 := Lib.hid (FA_50.out.below hbn FA_50.out.lt)
      have FB_51 := Lib.hid (FB_50.out.below hbn FB_50.out.lt)
      have AW_51 : Hid (Below w.heap.size w w_51) := AW_50.out.trans (hbn.mono AW_50.out.size)
      clear hbn AW_50 FA_50 FB_50
      have e1 : b1 = is := by rw [HK.out]; exact games_same HV.out HU.out hb1
      subst e1
      have HL51 := Lib.hid (HL50.out.below hb (Nat.le_refl _))
      clear hb1 HL50
      clear hb
      cases b1 with
      | false =>
        go_wp2
        go_ret
        exact ⟨rfl, AW_51.out⟩
      | true =>
        obtain ⟨a0, a1, a2⟩ := Box.c FA_51.out
        obtain ⟨b0, b1, b2⟩ := Box.c FB_51.out
        go_wp2_with fail
        clear  a0 a1 a2 b0 b1 b2
        refine (pEver_any n s r _ [-1, -1] m t q _ [-1, -1] _ HL51.out HL51.out (by decide) (by decide) (by omega) (by omega) (by omega) (by omega)).mono ?_
        rintro e w_52 ⟨b2, rfl, hb2, hb⟩
        have hbn := hb
        have FA_52 := Lib.hid (FA_51.out.below hbn FA_51.out.lt)
        have FB_52 := Lib.hid (FB_51.out.below hbn FB_51.out.lt)
        have AW_52 : Hid (Below w.heap.size w w_52) := AW_51.out.trans (hbn.mono AW_51.out.size)
        clear hbn AW_51 FA_51 FB_51
        have e2 : b2 = true := games_weak HV.out HU.out HK.out.symm hb2
        subst e2
        clear hb2 HL51
        clear hb
        go_wp2
        go_ret
        exact ⟨rfl, AW_52.out⟩
end Go.Proofs.YtpcnoiigbmiejaaGreatDoor.fnColoursCountingW
