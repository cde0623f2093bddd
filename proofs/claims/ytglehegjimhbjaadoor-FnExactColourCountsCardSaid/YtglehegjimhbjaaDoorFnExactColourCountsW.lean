/- The walk of FnExactColourCounts, over the contracts of the two functions. Printed by exactgen.py of this work. -/
import Derived.Test.YtglehegjimhbjaaDoorRows
import Derived.Test.YtglehegjimhbjaaDoorLib
import Derived.Test.YtglehegjimhbjaaDoorSl
import Derived.Test.YtglehegjimhbjaaDoorStr
import Derived.Test.YtglehegjimhbjaaDoorColE
import Derived.Test.YtglehegjimhbjaaDoorRow
namespace Go.Proofs.YtglehegjimhbjaaDoor.fnExactColourCountsW
set_option linter.unusedVariables false
set_option linter.unusedSimpArgs false
open Go.ChangeShapes Go.WideShapes Go.ChangeAt Go.RowKit
open Go.Proofs.YtglehegjimhbjaaDoor.lib Go.Proofs.YtglehegjimhbjaaDoor.st Go.Proofs.YtglehegjimhbjaaDoor.sl
set_option linter.unusedVariables false

set_option maxHeartbeats 1600000 in
theorem core (n0 : Int) (s0 r0 : ByteArray) (a1 : Int) (M0 : List Int) (w : World) (zs0 : s0.size ≤ maxLen) (zr0 : r0.size ≤ maxLen)
    (hM0 : s0.size + r0.size ≤ 1048576 → M0.length ≤ 4194304)
    (hspec : s0.size + r0.size ≤ 1048576 → ∀ (w : World), Calls Tryd.prog 24 #[.agg #[.int .i64 n0, .string s0, .string r0], .int .i64 a1] w fun e w' => ∃ v0, e = .returned (v0) ∧ OwnI 3 w' w.heap.size v0 M0 ∧ Below w.heap.size w w')
    (himpl : s0.size + r0.size ≤ 1048576 → ∀ (w : World), Calls Tryd.prog 25 #[.agg #[.int .i64 n0, .string s0, .string r0], .int .i64 a1] w fun e w' => ∃ v0, e = .returned (v0) ∧ OwnI 3 w' w.heap.size v0 M0 ∧ Below w.heap.size w w') :
    Calls Tryd.prog 8 #[.agg #[.int .i64 n0, .string s0, .string r0], .int .i64 a1] w fun e w' => e = .returned (.bool true) ∧ Below w.heap.size w w' := by
  unfold maxLen at zs0 zr0
  have HM0 := Lib.hid hM0
  clear hM0
  have HSPEC := Lib.hid hspec
  have HIMPL := Lib.hid himpl
  clear hspec himpl
  obtain ⟨HB, hHB⟩ : ∃ HB, HB = w.heap.size + 1 := ⟨_, rfl⟩
  have BX0 : Hid (Box 23 (w.alloc (.cells #[.int .i64 n0, .string s0, .string r0] 23)) (w.heap.size) n0 s0 r0) := Box.new 23 w (w.heap.size) (by simp) n0 s0 r0
  have AW0 : Hid (Below w.heap.size w (w.alloc (.cells #[.int .i64 n0, .string s0, .string r0] 23))) := (Below.refl w.heap.size w).alloc (Nat.le_refl _) _
  have BW0 : Hid (Below HB (w.alloc (.cells #[.int .i64 n0, .string s0, .string r0] 23)) (w.alloc (.cells #[.int .i64 n0, .string s0, .string r0] 23))) := Below.refl _ _
  have HBS : Hid ((w.alloc (.cells #[.int .i64 n0, .string s0, .string r0] 23)).heap.size = HB) := by rw [hHB]; simp [Hid]
  have HHB := Lib.hid hHB
  clear hHB
  obtain ⟨left1, hlf1⟩ : ∃ q, q = szL s0 r0 1048576 := ⟨_, rfl⟩
  have hle1 : left1 ≤ 1048576 := by have := szL_le s0 r0 1048576 (by omega); omega
  have HLF1 := Lib.hid hlf1
  clear hlf1
  go_enter Tryd.func8, Tryd.ntmps8
  obtain ⟨b00, b01, b02⟩ := (BX0.out.below BW0.out (by have := HHB.out; omega)).c
  go_wp2_with fail
  clear b00 b01 b02
  refine (szStructure_any _ _ _ _ _ (by omega) (by omega) (by omega) (by omega)).mono ?_
  rintro e w1 ⟨rfl, hb⟩
  rw [← HLF1.out]
  have hb := hb.mono (show HB ≤ _ by have := HBS.out; omega)
  have AW1 : Hid (Below w.heap.size w w1) := AW0.out.trans (hb.mono (by have := HHB.out; omega))
  have BW1 : Hid (Below HB (w.alloc (.cells #[.int .i64 n0, .string s0, .string r0] 23)) w1) := hb
  clear hb AW0 BW0
  by_cases gl1 : left1 < 0
  · go_wp2
    go_ret
    exact ⟨rfl, AW1.out⟩
  have hsum1 := szL_sum s0 r0 1048576 (by rw [← HLF1.out]; omega) (by omega)
  rw [← HLF1.out] at hsum1
  have hbs : s0.size + r0.size ≤ 1048576 := by omega
  have HBU : Hid (s0.size + r0.size ≤ 1048576) := hbs
  clear hbs hsum1
  have HBM0 := Lib.hid (HM0.out HBU.out)
  obtain ⟨b00, b01, b02⟩ := (BX0.out.below BW1.out (by have := HHB.out; omega)).c
  go_wp2_with fail
  clear b00 b01 b02
  refine (toStructure_any _ _ _ _).mono ?_
  rintro e w2 ⟨rfl, hb⟩
  have AW2 : Hid (Below w.heap.size w w2) := AW1.out.trans (hb.mono AW1.out.size)
  have BW2 : Hid (Below HB (w.alloc (.cells #[.int .i64 n0, .string s0, .string r0] 23)) w2) := BW1.out.trans (hb.mono (by have := BW1.out.size; have := HBS.out; omega))
  clear AW1 BW1
  clear hb
  go_wp2_with fail
  refine (HSPEC.out HBU.out _).mono ?_
  rintro e w3 ⟨vw0, rfl, ho, hb⟩
  have AW3 : Hid (Below w.heap.size w w3) := AW2.out.trans (hb.mono AW2.out.size)
  have BW3 : Hid (Below HB (w.alloc (.cells #[.int .i64 n0, .string s0, .string r0] 23)) w3) := BW2.out.trans (hb.mono (by have := BW2.out.size; have := HBS.out; omega))
  clear AW2 BW2
  have Ow0_3 := Lib.hid ho
  clear ho hb
  obtain ⟨b00, b01, b02⟩ := (BX0.out.below BW3.out (by have := HHB.out; omega)).c
  go_wp2_with fail
  clear b00 b01 b02
  refine (toStructure_any _ _ _ _).mono ?_
  rintro e w4 ⟨rfl, hb⟩
  have AW4 : Hid (Below w.heap.size w w4) := AW3.out.trans (hb.mono AW3.out.size)
  have BW4 : Hid (Below HB (w.alloc (.cells #[.int .i64 n0, .string s0, .string r0] 23)) w4) := BW3.out.trans (hb.mono (by have := BW3.out.size; have := HBS.out; omega))
  have Ow0_4 := Lib.hid (Ow0_3.out.below hb (Nat.le_refl _))
  clear Ow0_3
  clear AW3 BW3
  clear hb
  go_wp2_with fail
  refine (HIMPL.out HBU.out _).mono ?_
  rintro e w5 ⟨vg0, rfl, ho, hb⟩
  have Obaseg0 : Hid (HB ≤ w4.heap.size) := by have h1 := BW4.out.size; have h2 := HBS.out; unfold Hid; omega
  have Ag0_w0 : Hid (Apart vg0 vw0) := Apart.of_own ho Ow0_4.out
  have AW5 : Hid (Below w.heap.size w w5) := AW4.out.trans (hb.mono AW4.out.size)
  have BW5 : Hid (Below HB (w.alloc (.cells #[.int .i64 n0, .string s0, .string r0] 23)) w5) := BW4.out.trans (hb.mono (by have := BW4.out.size; have := HBS.out; omega))
  have Ow0_5 := Lib.hid (Ow0_4.out.below hb (Nat.le_refl _))
  clear Ow0_4
  clear AW4 BW4
  have Og0_5 := Lib.hid ho
  clear ho hb
  go_wp2_with fail
  refine (eqIntS_same _ _ M0 _ (OwnI.reads Og0_5.out) (OwnI.reads Ow0_5.out) (by have := HBM0.out; omega)).mono ?_
  rintro e w6 ⟨rfl, hb⟩
  have AW6 : Hid (Below w.heap.size w w6) := AW5.out.trans (hb.mono AW5.out.size)
  have BW6 : Hid (Below HB (w.alloc (.cells #[.int .i64 n0, .string s0, .string r0] 23)) w6) := BW5.out.trans (hb.mono (by have := BW5.out.size; have := HBS.out; omega))
  have Ow0_6 := Lib.hid (Ow0_5.out.below hb (Nat.le_refl _))
  clear Ow0_5
  have Og0_6 := Lib.hid (Og0_5.out.below hb (Nat.le_refl _))
  clear Og0_5
  clear AW5 BW5
  clear hb
  obtain ⟨C1, hC1⟩ : ∃ q : Int, q = 1 + (M0.length : Int) := ⟨_, rfl⟩
  have pC1 : 0 < C1 ∧ C1 ≤ 4194305 := by have := HBM0.out; omega
  have HC1 := Lib.hid hC1
  clear hC1
  go_wp2_with fail
  refine (markIntS_at _ _ M0 1 C1 _ Og0_6.out (by omega) (by have := HBM0.out; omega) (by omega) HC1.out).mono ?_
  rintro e w7 ⟨rfl, ho, hg⟩
  have hb : Below HB w6 w7 := below_of_grown hg (by have := BW6.out.size; have := HBS.out; omega) (fun q h => by have := (World.ownsRow.lt Og0_6.out q h).1; have := Obaseg0.out; omega)
  have AW7 : Hid (Below w.heap.size w w7) := AW6.out.trans (hb.mono (by have := HHB.out; omega))
  have BW7 : Hid (Below HB (w.alloc (.cells #[.int .i64 n0, .string s0, .string r0] 23)) w7) := BW6.out.trans hb
  have Ow0_7 := Lib.hid (OwnI.keepMark Ow0_6.out hg Ag0_w0.out.symm)
  clear Ow0_6
  have Og0_7 := Lib.hid ho
  clear Og0_6 ho hg hb AW6 BW6
  go_wp2_with fail
  refine (heldIntS_at _ M0.length 1 C1 _ (OwnI.reads Og0_7.out) (by omega) (by have := HBM0.out; omega) (by omega) HC1.out).mono ?_
  rintro e w8 ⟨rfl, hb⟩
  have AW8 : Hid (Below w.heap.size w w8) := AW7.out.trans (hb.mono AW7.out.size)
  have BW8 : Hid (Below HB (w.alloc (.cells #[.int .i64 n0, .string s0, .string r0] 23)) w8) := BW7.out.trans (hb.mono (by have := BW7.out.size; have := HBS.out; omega))
  have Ow0_8 := Lib.hid (Ow0_7.out.below hb (Nat.le_refl _))
  clear Ow0_7
  have Og0_8 := Lib.hid (Og0_7.out.below hb (Nat.le_refl _))
  clear Og0_7
  clear AW7 BW7
  clear hb
  obtain ⟨b00, b01, b02⟩ := (BX0.out.below BW8.out (by have := HHB.out; omega)).c
  go_wp2_with fail
  clear b00 b01 b02
  refine (toStructure_any _ _ _ _).mono ?_
  rintro e w9 ⟨rfl, hb⟩
  have AW9 : Hid (Below w.heap.size w w9) := AW8.out.trans (hb.mono AW8.out.size)
  have BW9 : Hid (Below HB (w.alloc (.cells #[.int .i64 n0, .string s0, .string r0] 23)) w9) := BW8.out.trans (hb.mono (by have := BW8.out.size; have := HBS.out; omega))
  have Ow0_9 := Lib.hid (Ow0_8.out.below hb (Nat.le_refl _))
  clear Ow0_8
  have Og0_9 := Lib.hid (Og0_8.out.below hb (Nat.le_refl _))
  clear Og0_8
  clear AW8 BW8
  clear hb
  go_wp2_with fail
  refine (HIMPL.out HBU.out _).mono ?_
  rintro e w10 ⟨vh0, rfl, ho, hb⟩
  have Ah0_w0 : Hid (Apart vh0 vw0) := Apart.of_own ho Ow0_9.out
  have Ah0_g0 : Hid (Apart vh0 vg0) := Apart.of_own ho Og0_9.out
  have AW10 : Hid (Below w.heap.size w w10) := AW9.out.trans (hb.mono AW9.out.size)
  have BW10 : Hid (Below HB (w.alloc (.cells #[.int .i64 n0, .string s0, .string r0] 23)) w10) := BW9.out.trans (hb.mono (by have := BW9.out.size; have := HBS.out; omega))
  have Ow0_10 := Lib.hid (Ow0_9.out.below hb (Nat.le_refl _))
  clear Ow0_9
  have Og0_10 := Lib.hid (Og0_9.out.below hb (Nat.le_refl _))
  clear Og0_9
  clear AW9 BW9
  have Oh0_10 := Lib.hid ho
  clear ho hb
  go_wp2_with fail
  refine (eqIntS_same _ _ M0 _ (OwnI.reads Oh0_10.out) (OwnI.reads Ow0_10.out) (by have := HBM0.out; omega)).mono ?_
  rintro e w11 ⟨rfl, hb⟩
  have AW11 : Hid (Below w.heap.size w w11) := AW10.out.trans (hb.mono AW10.out.size)
  have BW11 : Hid (Below HB (w.alloc (.cells #[.int .i64 n0, .string s0, .string r0] 23)) w11) := BW10.out.trans (hb.mono (by have := BW10.out.size; have := HBS.out; omega))
  have Ow0_11 := Lib.hid (Ow0_10.out.below hb (Nat.le_refl _))
  clear Ow0_10
  have Og0_11 := Lib.hid (Og0_10.out.below hb (Nat.le_refl _))
  clear Og0_10
  have Oh0_11 := Lib.hid (Oh0_10.out.below hb (Nat.le_refl _))
  clear Oh0_10
  clear AW10 BW10
  clear hb
  go_wp2_with fail
  refine (heldIntS_at _ M0.length 1 C1 _ (OwnI.reads Og0_11.out) (by omega) (by have := HBM0.out; omega) (by omega) HC1.out).mono ?_
  rintro e w12 ⟨rfl, hb⟩
  have AW12 : Hid (Below w.heap.size w w12) := AW11.out.trans (hb.mono AW11.out.size)
  have BW12 : Hid (Below HB (w.alloc (.cells #[.int .i64 n0, .string s0, .string r0] 23)) w12) := BW11.out.trans (hb.mono (by have := BW11.out.size; have := HBS.out; omega))
  have Ow0_12 := Lib.hid (Ow0_11.out.below hb (Nat.le_refl _))
  clear Ow0_11
  have Og0_12 := Lib.hid (Og0_11.out.below hb (Nat.le_refl _))
  clear Og0_11
  have Oh0_12 := Lib.hid (Oh0_11.out.below hb (Nat.le_refl _))
  clear Oh0_11
  clear AW11 BW11
  clear hb
  go_wp2
  go_ret
  exact ⟨rfl, AW12.out⟩

theorem walk (n0 : Int) (s0 r0 : ByteArray) (a1 : Int) (w : World) (zn0 : (Lit.int .i64 n0).wf = true) (zs0 : s0.size ≤ maxLen) (zr0 : r0.size ≤ maxLen) (w1 : (Lit.int .i64 a1).wf = true) :
    Calls Tryd.prog 8 #[.agg #[.int .i64 n0, .string s0, .string r0], .int .i64 a1] w fun e w' => e = .returned (.bool true) ∧ Below w.heap.size w w' := by
  exact core n0 s0 r0 a1 _ w zs0 zr0 (cole.cnt.len0 n0 s0 r0 a1) (cole.cnt.specE n0 s0 r0 a1 zn0 w1) (cole.cnt.implE n0 s0 r0 a1 zn0 w1)
end Go.Proofs.YtglehegjimhbjaaDoor.fnExactColourCountsW
