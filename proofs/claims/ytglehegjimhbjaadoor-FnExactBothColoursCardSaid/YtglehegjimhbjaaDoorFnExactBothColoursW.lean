/- The walk of FnExactBothColours, over the contracts of the two functions. Printed by exactgen.py of this work. -/
import Derived.Test.YtglehegjimhbjaaDoorRows
import Derived.Test.YtglehegjimhbjaaDoorLib
import Derived.Test.YtglehegjimhbjaaDoorSl
import Derived.Test.YtglehegjimhbjaaDoorStr
import Derived.Test.YtglehegjimhbjaaDoorColE
import Derived.Test.YtglehegjimhbjaaDoorRow
import Derived.Deep.RegionHeld3
namespace Go.Proofs.YtglehegjimhbjaaDoor.fnExactBothColoursW
set_option linter.unusedVariables false
set_option linter.unusedSimpArgs false
open Go.ChangeShapes Go.WideShapes Go.ChangeAt Go.RowKit
open Go.Proofs.YtglehegjimhbjaaDoor.lib Go.Proofs.YtglehegjimhbjaaDoor.st Go.Proofs.YtglehegjimhbjaaDoor.sl
set_option linter.unusedVariables false

set_option maxHeartbeats 1600000 in
theorem core (n0 : Int) (s0 r0 : ByteArray) (n1 : Int) (s1 r1 : ByteArray) (a2 : Int) (M0 : List Int) (M1 : List Int) (w : World) (zs0 : s0.size ≤ maxLen) (zr0 : r0.size ≤ maxLen) (zs1 : s1.size ≤ maxLen) (zr1 : r1.size ≤ maxLen)
    (hM0 : (s0.size + r0.size) + (s1.size + r1.size) ≤ 1048576 → M0.length ≤ 4194304)
    (hM1 : (s0.size + r0.size) + (s1.size + r1.size) ≤ 1048576 → M1.length ≤ 4194304)
    (hspec : (s0.size + r0.size) + (s1.size + r1.size) ≤ 1048576 → ∀ (w : World), Calls Tryd.prog 10 #[.agg #[.int .i64 n0, .string s0, .string r0], .agg #[.int .i64 n1, .string s1, .string r1], .int .i64 a2] w fun e w' => ∃ v0 v1, e = .returned (.tuple #[v0, v1]) ∧ (cole.RB w' v0 M0 ∧ cole.RB w' v1 M1 ∧ True) ∧ Below w.heap.size w w')
    (himpl : (s0.size + r0.size) + (s1.size + r1.size) ≤ 1048576 → ∀ (w : World), Calls Tryd.prog 12 #[.agg #[.int .i64 n0, .string s0, .string r0], .agg #[.int .i64 n1, .string s1, .string r1], .int .i64 a2] w fun e w' => ∃ v0 v1, e = .returned (.tuple #[v0, v1]) ∧ Two 3 w' w.heap.size v0 v1 M0 M1 ∧ Below w.heap.size w w') :
    Calls Tryd.prog 3 #[.agg #[.int .i64 n0, .string s0, .string r0], .agg #[.int .i64 n1, .string s1, .string r1], .int .i64 a2] w fun e w' => e = .returned (.bool true) ∧ Below w.heap.size w w' := by
  unfold maxLen at zs0 zr0
  unfold maxLen at zs1 zr1
  have HM0 := Lib.hid hM0
  clear hM0
  have HM1 := Lib.hid hM1
  clear hM1
  have HSPEC := Lib.hid hspec
  have HIMPL := Lib.hid himpl
  clear hspec himpl
  obtain ⟨HB, hHB⟩ : ∃ HB, HB = w.heap.size + 1 + 1 := ⟨_, rfl⟩
  have BX0 : Hid (Box 23 ((w.alloc (.cells #[.int .i64 n0, .string s0, .string r0] 23)).alloc (.cells #[.int .i64 n1, .string s1, .string r1] 23)) (w.heap.size) n0 s0 r0) := (Box.new 23 w (w.heap.size) (by simp) n0 s0 r0).below ((Below.refl (w.heap.size + 1) _).alloc (by simp) _) (by omega)
  have BX1 : Hid (Box 23 ((w.alloc (.cells #[.int .i64 n0, .string s0, .string r0] 23)).alloc (.cells #[.int .i64 n1, .string s1, .string r1] 23)) (w.heap.size + 1) n1 s1 r1) := Box.new 23 (w.alloc (.cells #[.int .i64 n0, .string s0, .string r0] 23)) (w.heap.size + 1) (by simp) n1 s1 r1
  have AW0 : Hid (Below w.heap.size w ((w.alloc (.cells #[.int .i64 n0, .string s0, .string r0] 23)).alloc (.cells #[.int .i64 n1, .string s1, .string r1] 23))) := ((Below.refl w.heap.size w).alloc (Nat.le_refl _) _).alloc (by simp only [World.size_alloc]; omega) _
  have BW0 : Hid (Below HB ((w.alloc (.cells #[.int .i64 n0, .string s0, .string r0] 23)).alloc (.cells #[.int .i64 n1, .string s1, .string r1] 23)) ((w.alloc (.cells #[.int .i64 n0, .string s0, .string r0] 23)).alloc (.cells #[.int .i64 n1, .string s1, .string r1] 23))) := Below.refl _ _
  have HBS : Hid (((w.alloc (.cells #[.int .i64 n0, .string s0, .string r0] 23)).alloc (.cells #[.int .i64 n1, .string s1, .string r1] 23)).heap.size = HB) := by rw [hHB]; simp [Hid]
  have HHB := Lib.hid hHB
  clear hHB
  obtain ⟨left1, hlf1⟩ : ∃ q, q = szL s0 r0 1048576 := ⟨_, rfl⟩
  have hle1 : left1 ≤ 1048576 := by have := szL_le s0 r0 1048576 (by omega); omega
  have HLF1 := Lib.hid hlf1
  clear hlf1
  go_enter Tryd.func3, Tryd.ntmps3
  obtain ⟨b00, b01, b02⟩ := (BX0.out.below BW0.out (by have := HHB.out; omega)).c
  go_wp2_with fail
  clear b00 b01 b02
  refine (szStructure_any _ _ _ _ _ (by omega) (by omega) (by omega) (by omega)).mono ?_
  rintro e w1 ⟨rfl, hb⟩
  rw [← HLF1.out]
  have hb := hb.mono (show HB ≤ _ by have := HBS.out; omega)
  have AW1 : Hid (Below w.heap.size w w1) := AW0.out.trans (hb.mono (by have := HHB.out; omega))
  have BW1 : Hid (Below HB ((w.alloc (.cells #[.int .i64 n0, .string s0, .string r0] 23)).alloc (.cells #[.int .i64 n1, .string s1, .string r1] 23)) w1) := hb
  clear hb AW0 BW0
  by_cases gl1 : left1 < 0
  · go_wp2
    go_ret
    exact ⟨rfl, AW1.out⟩
  obtain ⟨left2, hlf2⟩ : ∃ q, q = szL s1 r1 left1 := ⟨_, rfl⟩
  have hle2 : left2 ≤ 1048576 := by have := szL_le s1 r1 left1 (by omega); omega
  have HLF2 := Lib.hid hlf2
  clear hlf2
  obtain ⟨b10, b11, b12⟩ := (BX1.out.below BW1.out (by have := HHB.out; omega)).c
  go_wp2_with fail
  clear b10 b11 b12
  refine (szStructure_any _ _ _ _ _ (by omega) (by omega) (by omega) (by omega)).mono ?_
  rintro e w2 ⟨rfl, hb⟩
  rw [← HLF2.out]
  have AW2 : Hid (Below w.heap.size w w2) := AW1.out.trans (hb.mono AW1.out.size)
  have BW2 : Hid (Below HB ((w.alloc (.cells #[.int .i64 n0, .string s0, .string r0] 23)).alloc (.cells #[.int .i64 n1, .string s1, .string r1] 23)) w2) := BW1.out.trans (hb.mono (by have := BW1.out.size; have := HBS.out; omega))
  clear AW1 BW1
  clear hb
  by_cases gl2 : left2 < 0
  · go_wp2
    go_ret
    exact ⟨rfl, AW2.out⟩
  have hsum1 := szL_sum s0 r0 1048576 (by rw [← HLF1.out]; omega) (by omega)
  rw [← HLF1.out] at hsum1
  have hsum2 := szL_sum s1 r1 left1 (by rw [← HLF2.out]; omega) (by omega)
  rw [← HLF2.out] at hsum2
  have hbs : (s0.size + r0.size) + (s1.size + r1.size) ≤ 1048576 := by omega
  have HBU : Hid ((s0.size + r0.size) + (s1.size + r1.size) ≤ 1048576) := hbs
  clear hbs hsum1 hsum2
  have HBM0 := Lib.hid (HM0.out HBU.out)
  have HBM1 := Lib.hid (HM1.out HBU.out)
  obtain ⟨b00, b01, b02⟩ := (BX0.out.below BW2.out (by have := HHB.out; omega)).c
  obtain ⟨b10, b11, b12⟩ := (BX1.out.below BW2.out (by have := HHB.out; omega)).c
  go_wp2_with fail
  have AA2 : Hid (Below w2.heap.size w2 w2.drew) := (Below.refl _ _).drew
  go_region_held3 (fun X => X.cell? ⟨w.heap.size, 0, none⟩ = some (.int .i64 n0) ∧ X.cell? ⟨w.heap.size, 1, none⟩ = some (.string s0) ∧ X.cell? ⟨w.heap.size, 2, none⟩ = some (.string r0) ∧ X.cell? ⟨w.heap.size + 1, 0, none⟩ = some (.int .i64 n1) ∧ X.cell? ⟨w.heap.size + 1, 1, none⟩ = some (.string s1) ∧ X.cell? ⟨w.heap.size + 1, 2, none⟩ = some (.string r1) ∧ Hid (Below w2.heap.size w2 X)) (first | exact ⟨b00, b01, b02, b10, b11, b12, AA2⟩ | exact keep6 hb ⟨b00, b01, b02, b10, b11, b12, AA2⟩ | exact keep6 hb (by assumption)) (first | (go_at_call 11; with_reducible refine (toStructure_any n0 s0 r0 _).mono ?_; rintro e X ⟨rfl, hb⟩) | (go_at_call 11; with_reducible refine (toStructure_any n1 s1 r1 _).mono ?_; rintro e X ⟨rfl, hb⟩) | (go_at_call 10; refine (HSPEC.out HBU.out _).mono ?_; rintro e w3 ⟨vw0, vw1, rfl, ⟨ho1, ho2, hap⟩, hb⟩))
  have hb : Below w2.heap.size w2 w3 := out6 (by assumption)
  clear AA2
  clear b00 b01 b02
  clear b10 b11 b12
  have Aw0_w1 := Lib.hid hap
  have AW3 : Hid (Below w.heap.size w w3) := AW2.out.trans (hb.mono AW2.out.size)
  have BW3 : Hid (Below HB ((w.alloc (.cells #[.int .i64 n0, .string s0, .string r0] 23)).alloc (.cells #[.int .i64 n1, .string s1, .string r1] 23)) w3) := BW2.out.trans (hb.mono (by have := BW2.out.size; have := HBS.out; omega))
  clear AW2 BW2
  have Ow0_3 := Lib.hid ho1
  have Ow1_3 := Lib.hid ho2
  clear ho1 ho2 hap hb
  obtain ⟨b00, b01, b02⟩ := (BX0.out.below BW3.out (by have := HHB.out; omega)).c
  obtain ⟨b10, b11, b12⟩ := (BX1.out.below BW3.out (by have := HHB.out; omega)).c
  go_wp2_with fail
  have AA3 : Hid (Below w3.heap.size w3 w3.drew) := (Below.refl _ _).drew
  go_region_held3 (fun X => X.cell? ⟨w.heap.size, 0, none⟩ = some (.int .i64 n0) ∧ X.cell? ⟨w.heap.size, 1, none⟩ = some (.string s0) ∧ X.cell? ⟨w.heap.size, 2, none⟩ = some (.string r0) ∧ X.cell? ⟨w.heap.size + 1, 0, none⟩ = some (.int .i64 n1) ∧ X.cell? ⟨w.heap.size + 1, 1, none⟩ = some (.string s1) ∧ X.cell? ⟨w.heap.size + 1, 2, none⟩ = some (.string r1) ∧ Hid (Below w3.heap.size w3 X)) (first | exact ⟨b00, b01, b02, b10, b11, b12, AA3⟩ | exact keep6 hb ⟨b00, b01, b02, b10, b11, b12, AA3⟩ | exact keep6 hb (by assumption)) (first | (go_at_call 11; with_reducible refine (toStructure_any n0 s0 r0 _).mono ?_; rintro e X ⟨rfl, hb⟩) | (go_at_call 11; with_reducible refine (toStructure_any n1 s1 r1 _).mono ?_; rintro e X ⟨rfl, hb⟩) | (go_at_call 12; refine (HIMPL.out HBU.out _).mono ?_; rintro e w4 ⟨vg0, vg1, rfl, ⟨ho1, ho2, hap⟩, hb⟩; have ho1 : OwnI 3 _ w3.heap.size _ _ := ho1.mono (out6 (w0 := w3) (by assumption)).size; have ho2 : OwnI 3 _ w3.heap.size _ _ := ho2.mono (out6 (w0 := w3) (by assumption)).size))
  have hb : Below w3.heap.size w3 w4 := out6 (by assumption)
  clear AA3
  clear b00 b01 b02
  clear b10 b11 b12
  have Obaseg0 : Hid (HB ≤ w3.heap.size) := by have h1 := BW3.out.size; have h2 := HBS.out; unfold Hid; omega
  have Obaseg1 : Hid (HB ≤ w3.heap.size) := by have h1 := BW3.out.size; have h2 := HBS.out; unfold Hid; omega
  have Ag0_w0 : Hid (Apart vg0 vw0) := cole.RB.apart ho1 Ow0_3.out
  have Ag0_w1 : Hid (Apart vg0 vw1) := cole.RB.apart ho1 Ow1_3.out
  have Ag1_w0 : Hid (Apart vg1 vw0) := cole.RB.apart ho2 Ow0_3.out
  have Ag1_w1 : Hid (Apart vg1 vw1) := cole.RB.apart ho2 Ow1_3.out
  have Ag0_g1 := Lib.hid hap
  have AW4 : Hid (Below w.heap.size w w4) := AW3.out.trans (hb.mono AW3.out.size)
  have BW4 : Hid (Below HB ((w.alloc (.cells #[.int .i64 n0, .string s0, .string r0] 23)).alloc (.cells #[.int .i64 n1, .string s1, .string r1] 23)) w4) := BW3.out.trans (hb.mono (by have := BW3.out.size; have := HBS.out; omega))
  have Ow0_4 := Lib.hid (Ow0_3.out.below hb (Nat.le_refl _))
  clear Ow0_3
  have Ow1_4 := Lib.hid (Ow1_3.out.below hb (Nat.le_refl _))
  clear Ow1_3
  clear AW3 BW3
  have Og0_4 := Lib.hid ho1
  have Og1_4 := Lib.hid ho2
  clear ho1 ho2 hap hb
  go_wp2_with fail
  refine (eqIntS_same _ _ M0 _ (OwnI.reads Og0_4.out) (cole.RB.reads Ow0_4.out) (by have := HBM0.out; omega)).mono ?_
  rintro e w5 ⟨rfl, hb⟩
  have AW5 : Hid (Below w.heap.size w w5) := AW4.out.trans (hb.mono AW4.out.size)
  have BW5 : Hid (Below HB ((w.alloc (.cells #[.int .i64 n0, .string s0, .string r0] 23)).alloc (.cells #[.int .i64 n1, .string s1, .string r1] 23)) w5) := BW4.out.trans (hb.mono (by have := BW4.out.size; have := HBS.out; omega))
  have Ow0_5 := Lib.hid (Ow0_4.out.below hb (Nat.le_refl _))
  clear Ow0_4
  have Ow1_5 := Lib.hid (Ow1_4.out.below hb (Nat.le_refl _))
  clear Ow1_4
  have Og0_5 := Lib.hid (Og0_4.out.below hb (Nat.le_refl _))
  clear Og0_4
  have Og1_5 := Lib.hid (Og1_4.out.below hb (Nat.le_refl _))
  clear Og1_4
  clear AW4 BW4
  clear hb
  go_wp2_with fail
  refine (eqIntS_same _ _ M1 _ (OwnI.reads Og1_5.out) (cole.RB.reads Ow1_5.out) (by have := HBM1.out; omega)).mono ?_
  rintro e w6 ⟨rfl, hb⟩
  have AW6 : Hid (Below w.heap.size w w6) := AW5.out.trans (hb.mono AW5.out.size)
  have BW6 : Hid (Below HB ((w.alloc (.cells #[.int .i64 n0, .string s0, .string r0] 23)).alloc (.cells #[.int .i64 n1, .string s1, .string r1] 23)) w6) := BW5.out.trans (hb.mono (by have := BW5.out.size; have := HBS.out; omega))
  have Ow0_6 := Lib.hid (Ow0_5.out.below hb (Nat.le_refl _))
  clear Ow0_5
  have Ow1_6 := Lib.hid (Ow1_5.out.below hb (Nat.le_refl _))
  clear Ow1_5
  have Og0_6 := Lib.hid (Og0_5.out.below hb (Nat.le_refl _))
  clear Og0_5
  have Og1_6 := Lib.hid (Og1_5.out.below hb (Nat.le_refl _))
  clear Og1_5
  clear AW5 BW5
  clear hb
  obtain ⟨C1, hC1⟩ : ∃ q : Int, q = 1 + (M0.length : Int) := ⟨_, rfl⟩
  have pC1 : 0 < C1 ∧ C1 ≤ 4194305 := by have := HBM0.out; omega
  have HC1 := Lib.hid hC1
  clear hC1
  go_wp2_with fail
  refine (markIntS_at _ _ M0 1 C1 _ Og0_6.out (by omega) (by have := HBM0.out; omega) (by omega) HC1.out).mono ?_
  rintro e w7 ⟨rfl, ho, hg⟩
  have hb : Below HB w6 w7 := below_of_grown hg (by have := BW6.out.size; have := HBS.out; omega) (fun q h => by have := (World.ownsRow.lt Og0_6.out q h).1; have := Obaseg0.out; omega)
  have AW7 : Hid (Below w.heap.size w w7) := AW6.out.trans (hb.mono (by have := HHB.out; omega))
  have BW7 : Hid (Below HB ((w.alloc (.cells #[.int .i64 n0, .string s0, .string r0] 23)).alloc (.cells #[.int .i64 n1, .string s1, .string r1] 23)) w7) := BW6.out.trans hb
  have Ow0_7 := Lib.hid (cole.RB.keepMark Ow0_6.out hg Ag0_w0.out.symm)
  clear Ow0_6
  have Ow1_7 := Lib.hid (cole.RB.keepMark Ow1_6.out hg Ag0_w1.out.symm)
  clear Ow1_6
  have Og1_7 := Lib.hid (OwnI.keepMark Og1_6.out hg Ag0_g1.out.symm)
  clear Og1_6
  have Og0_7 := Lib.hid ho
  clear Og0_6 ho hg hb AW6 BW6
  obtain ⟨C2, hC2⟩ : ∃ q : Int, q = C1 + (M1.length : Int) := ⟨_, rfl⟩
  have pC2 : 0 < C2 ∧ C2 ≤ 8388609 := by have := HBM1.out; omega
  have HC2 := Lib.hid hC2
  clear hC2
  go_wp2_with fail
  refine (markIntS_at _ _ M1 C1 C2 _ Og1_7.out (by omega) (by have := HBM1.out; omega) (by omega) HC2.out).mono ?_
  rintro e w8 ⟨rfl, ho, hg⟩
  have hb : Below HB w7 w8 := below_of_grown hg (by have := BW7.out.size; have := HBS.out; omega) (fun q h => by have := (World.ownsRow.lt Og1_7.out q h).1; have := Obaseg1.out; omega)
  have AW8 : Hid (Below w.heap.size w w8) := AW7.out.trans (hb.mono (by have := HHB.out; omega))
  have BW8 : Hid (Below HB ((w.alloc (.cells #[.int .i64 n0, .string s0, .string r0] 23)).alloc (.cells #[.int .i64 n1, .string s1, .string r1] 23)) w8) := BW7.out.trans hb
  have Ow0_8 := Lib.hid (cole.RB.keepMark Ow0_7.out hg Ag1_w0.out.symm)
  clear Ow0_7
  have Ow1_8 := Lib.hid (cole.RB.keepMark Ow1_7.out hg Ag1_w1.out.symm)
  clear Ow1_7
  have Og0_8 := Lib.hid (OwnI.keepMark Og0_7.out hg Ag0_g1.out)
  clear Og0_7
  have Og1_8 := Lib.hid ho
  clear Og1_7 ho hg hb AW7 BW7
  go_wp2_with fail
  refine (heldIntS_at _ M0.length 1 C1 _ (OwnI.reads Og0_8.out) (by omega) (by have := HBM0.out; omega) (by omega) HC1.out).mono ?_
  rintro e w9 ⟨rfl, hb⟩
  have AW9 : Hid (Below w.heap.size w w9) := AW8.out.trans (hb.mono AW8.out.size)
  have BW9 : Hid (Below HB ((w.alloc (.cells #[.int .i64 n0, .string s0, .string r0] 23)).alloc (.cells #[.int .i64 n1, .string s1, .string r1] 23)) w9) := BW8.out.trans (hb.mono (by have := BW8.out.size; have := HBS.out; omega))
  have Ow0_9 := Lib.hid (Ow0_8.out.below hb (Nat.le_refl _))
  clear Ow0_8
  have Ow1_9 := Lib.hid (Ow1_8.out.below hb (Nat.le_refl _))
  clear Ow1_8
  have Og0_9 := Lib.hid (Og0_8.out.below hb (Nat.le_refl _))
  clear Og0_8
  have Og1_9 := Lib.hid (Og1_8.out.below hb (Nat.le_refl _))
  clear Og1_8
  clear AW8 BW8
  clear hb
  go_wp2_with fail
  refine (heldIntS_at _ M1.length C1 C2 _ (OwnI.reads Og1_9.out) (by omega) (by have := HBM1.out; omega) (by omega) HC2.out).mono ?_
  rintro e w10 ⟨rfl, hb⟩
  have AW10 : Hid (Below w.heap.size w w10) := AW9.out.trans (hb.mono AW9.out.size)
  have BW10 : Hid (Below HB ((w.alloc (.cells #[.int .i64 n0, .string s0, .string r0] 23)).alloc (.cells #[.int .i64 n1, .string s1, .string r1] 23)) w10) := BW9.out.trans (hb.mono (by have := BW9.out.size; have := HBS.out; omega))
  have Ow0_10 := Lib.hid (Ow0_9.out.below hb (Nat.le_refl _))
  clear Ow0_9
  have Ow1_10 := Lib.hid (Ow1_9.out.below hb (Nat.le_refl _))
  clear Ow1_9
  have Og0_10 := Lib.hid (Og0_9.out.below hb (Nat.le_refl _))
  clear Og0_9
  have Og1_10 := Lib.hid (Og1_9.out.below hb (Nat.le_refl _))
  clear Og1_9
  clear AW9 BW9
  clear hb
  obtain ⟨b00, b01, b02⟩ := (BX0.out.below BW10.out (by have := HHB.out; omega)).c
  obtain ⟨b10, b11, b12⟩ := (BX1.out.below BW10.out (by have := HHB.out; omega)).c
  go_wp2_with fail
  have AA10 : Hid (Below w10.heap.size w10 w10.drew) := (Below.refl _ _).drew
  go_region_held3 (fun X => X.cell? ⟨w.heap.size, 0, none⟩ = some (.int .i64 n0) ∧ X.cell? ⟨w.heap.size, 1, none⟩ = some (.string s0) ∧ X.cell? ⟨w.heap.size, 2, none⟩ = some (.string r0) ∧ X.cell? ⟨w.heap.size + 1, 0, none⟩ = some (.int .i64 n1) ∧ X.cell? ⟨w.heap.size + 1, 1, none⟩ = some (.string s1) ∧ X.cell? ⟨w.heap.size + 1, 2, none⟩ = some (.string r1) ∧ Hid (Below w10.heap.size w10 X)) (first | exact ⟨b00, b01, b02, b10, b11, b12, AA10⟩ | exact keep6 hb ⟨b00, b01, b02, b10, b11, b12, AA10⟩ | exact keep6 hb (by assumption)) (first | (go_at_call 11; with_reducible refine (toStructure_any n0 s0 r0 _).mono ?_; rintro e X ⟨rfl, hb⟩) | (go_at_call 11; with_reducible refine (toStructure_any n1 s1 r1 _).mono ?_; rintro e X ⟨rfl, hb⟩) | (go_at_call 12; refine (HIMPL.out HBU.out _).mono ?_; rintro e w11 ⟨vh0, vh1, rfl, ⟨ho1, ho2, hap⟩, hb⟩; have ho1 : OwnI 3 _ w10.heap.size _ _ := ho1.mono (out6 (w0 := w10) (by assumption)).size; have ho2 : OwnI 3 _ w10.heap.size _ _ := ho2.mono (out6 (w0 := w10) (by assumption)).size))
  have hb : Below w10.heap.size w10 w11 := out6 (by assumption)
  clear AA10
  clear b00 b01 b02
  clear b10 b11 b12
  have Ah0_w0 : Hid (Apart vh0 vw0) := cole.RB.apart ho1 Ow0_10.out
  have Ah0_w1 : Hid (Apart vh0 vw1) := cole.RB.apart ho1 Ow1_10.out
  have Ah0_g0 : Hid (Apart vh0 vg0) := Apart.of_own ho1 Og0_10.out
  have Ah0_g1 : Hid (Apart vh0 vg1) := Apart.of_own ho1 Og1_10.out
  have Ah1_w0 : Hid (Apart vh1 vw0) := cole.RB.apart ho2 Ow0_10.out
  have Ah1_w1 : Hid (Apart vh1 vw1) := cole.RB.apart ho2 Ow1_10.out
  have Ah1_g0 : Hid (Apart vh1 vg0) := Apart.of_own ho2 Og0_10.out
  have Ah1_g1 : Hid (Apart vh1 vg1) := Apart.of_own ho2 Og1_10.out
  have Ah0_h1 := Lib.hid hap
  have AW11 : Hid (Below w.heap.size w w11) := AW10.out.trans (hb.mono AW10.out.size)
  have BW11 : Hid (Below HB ((w.alloc (.cells #[.int .i64 n0, .string s0, .string r0] 23)).alloc (.cells #[.int .i64 n1, .string s1, .string r1] 23)) w11) := BW10.out.trans (hb.mono (by have := BW10.out.size; have := HBS.out; omega))
  have Ow0_11 := Lib.hid (Ow0_10.out.below hb (Nat.le_refl _))
  clear Ow0_10
  have Ow1_11 := Lib.hid (Ow1_10.out.below hb (Nat.le_refl _))
  clear Ow1_10
  have Og0_11 := Lib.hid (Og0_10.out.below hb (Nat.le_refl _))
  clear Og0_10
  have Og1_11 := Lib.hid (Og1_10.out.below hb (Nat.le_refl _))
  clear Og1_10
  clear AW10 BW10
  have Oh0_11 := Lib.hid ho1
  have Oh1_11 := Lib.hid ho2
  clear ho1 ho2 hap hb
  go_wp2_with fail
  refine (eqIntS_same _ _ M0 _ (OwnI.reads Oh0_11.out) (cole.RB.reads Ow0_11.out) (by have := HBM0.out; omega)).mono ?_
  rintro e w12 ⟨rfl, hb⟩
  have AW12 : Hid (Below w.heap.size w w12) := AW11.out.trans (hb.mono AW11.out.size)
  have BW12 : Hid (Below HB ((w.alloc (.cells #[.int .i64 n0, .string s0, .string r0] 23)).alloc (.cells #[.int .i64 n1, .string s1, .string r1] 23)) w12) := BW11.out.trans (hb.mono (by have := BW11.out.size; have := HBS.out; omega))
  have Ow0_12 := Lib.hid (Ow0_11.out.below hb (Nat.le_refl _))
  clear Ow0_11
  have Ow1_12 := Lib.hid (Ow1_11.out.below hb (Nat.le_refl _))
  clear Ow1_11
  have Og0_12 := Lib.hid (Og0_11.out.below hb (Nat.le_refl _))
  clear Og0_11
  have Og1_12 := Lib.hid (Og1_11.out.below hb (Nat.le_refl _))
  clear Og1_11
  have Oh0_12 := Lib.hid (Oh0_11.out.below hb (Nat.le_refl _))
  clear Oh0_11
  have Oh1_12 := Lib.hid (Oh1_11.out.below hb (Nat.le_refl _))
  clear Oh1_11
  clear AW11 BW11
  clear hb
  go_wp2_with fail
  refine (eqIntS_same _ _ M1 _ (OwnI.reads Oh1_12.out) (cole.RB.reads Ow1_12.out) (by have := HBM1.out; omega)).mono ?_
  rintro e w13 ⟨rfl, hb⟩
  have AW13 : Hid (Below w.heap.size w w13) := AW12.out.trans (hb.mono AW12.out.size)
  have BW13 : Hid (Below HB ((w.alloc (.cells #[.int .i64 n0, .string s0, .string r0] 23)).alloc (.cells #[.int .i64 n1, .string s1, .string r1] 23)) w13) := BW12.out.trans (hb.mono (by have := BW12.out.size; have := HBS.out; omega))
  have Ow0_13 := Lib.hid (Ow0_12.out.below hb (Nat.le_refl _))
  clear Ow0_12
  have Ow1_13 := Lib.hid (Ow1_12.out.below hb (Nat.le_refl _))
  clear Ow1_12
  have Og0_13 := Lib.hid (Og0_12.out.below hb (Nat.le_refl _))
  clear Og0_12
  have Og1_13 := Lib.hid (Og1_12.out.below hb (Nat.le_refl _))
  clear Og1_12
  have Oh0_13 := Lib.hid (Oh0_12.out.below hb (Nat.le_refl _))
  clear Oh0_12
  have Oh1_13 := Lib.hid (Oh1_12.out.below hb (Nat.le_refl _))
  clear Oh1_12
  clear AW12 BW12
  clear hb
  go_wp2_with fail
  refine (heldIntS_at _ M0.length 1 C1 _ (OwnI.reads Og0_13.out) (by omega) (by have := HBM0.out; omega) (by omega) HC1.out).mono ?_
  rintro e w14 ⟨rfl, hb⟩
  have AW14 : Hid (Below w.heap.size w w14) := AW13.out.trans (hb.mono AW13.out.size)
  have BW14 : Hid (Below HB ((w.alloc (.cells #[.int .i64 n0, .string s0, .string r0] 23)).alloc (.cells #[.int .i64 n1, .string s1, .string r1] 23)) w14) := BW13.out.trans (hb.mono (by have := BW13.out.size; have := HBS.out; omega))
  have Ow0_14 := Lib.hid (Ow0_13.out.below hb (Nat.le_refl _))
  clear Ow0_13
  have Ow1_14 := Lib.hid (Ow1_13.out.below hb (Nat.le_refl _))
  clear Ow1_13
  have Og0_14 := Lib.hid (Og0_13.out.below hb (Nat.le_refl _))
  clear Og0_13
  have Og1_14 := Lib.hid (Og1_13.out.below hb (Nat.le_refl _))
  clear Og1_13
  have Oh0_14 := Lib.hid (Oh0_13.out.below hb (Nat.le_refl _))
  clear Oh0_13
  have Oh1_14 := Lib.hid (Oh1_13.out.below hb (Nat.le_refl _))
  clear Oh1_13
  clear AW13 BW13
  clear hb
  go_wp2_with fail
  refine (heldIntS_at _ M1.length C1 C2 _ (OwnI.reads Og1_14.out) (by omega) (by have := HBM1.out; omega) (by omega) HC2.out).mono ?_
  rintro e w15 ⟨rfl, hb⟩
  have AW15 : Hid (Below w.heap.size w w15) := AW14.out.trans (hb.mono AW14.out.size)
  have BW15 : Hid (Below HB ((w.alloc (.cells #[.int .i64 n0, .string s0, .string r0] 23)).alloc (.cells #[.int .i64 n1, .string s1, .string r1] 23)) w15) := BW14.out.trans (hb.mono (by have := BW14.out.size; have := HBS.out; omega))
  have Ow0_15 := Lib.hid (Ow0_14.out.below hb (Nat.le_refl _))
  clear Ow0_14
  have Ow1_15 := Lib.hid (Ow1_14.out.below hb (Nat.le_refl _))
  clear Ow1_14
  have Og0_15 := Lib.hid (Og0_14.out.below hb (Nat.le_refl _))
  clear Og0_14
  have Og1_15 := Lib.hid (Og1_14.out.below hb (Nat.le_refl _))
  clear Og1_14
  have Oh0_15 := Lib.hid (Oh0_14.out.below hb (Nat.le_refl _))
  clear Oh0_14
  have Oh1_15 := Lib.hid (Oh1_14.out.below hb (Nat.le_refl _))
  clear Oh1_14
  clear AW14 BW14
  clear hb
  go_wp2
  go_ret
  exact ⟨rfl, AW15.out⟩

theorem walk (n0 : Int) (s0 r0 : ByteArray) (n1 : Int) (s1 r1 : ByteArray) (a2 : Int) (w : World) (zn0 : (Lit.int .i64 n0).wf = true) (zs0 : s0.size ≤ maxLen) (zr0 : r0.size ≤ maxLen) (zn1 : (Lit.int .i64 n1).wf = true) (zs1 : s1.size ≤ maxLen) (zr1 : r1.size ≤ maxLen) (w2 : (Lit.int .i64 a2).wf = true) :
    Calls Tryd.prog 3 #[.agg #[.int .i64 n0, .string s0, .string r0], .agg #[.int .i64 n1, .string s1, .string r1], .int .i64 a2] w fun e w' => e = .returned (.bool true) ∧ Below w.heap.size w w' := by
  exact core n0 s0 r0 n1 s1 r1 a2 _ _ w zs0 zr0 zs1 zr1 (cole.bth.len0 n0 s0 r0 n1 s1 r1 a2) (cole.bth.len1 n0 s0 r0 n1 s1 r1 a2) (cole.bth.specE n0 s0 r0 n1 s1 r1 a2 zn0 zn1 w2) (cole.bth.implE n0 s0 r0 n1 s1 r1 a2 zn0 zn1 w2)
end Go.Proofs.YtglehegjimhbjaaDoor.fnExactBothColoursW
