/- The walk of FnExactOrderedSum, over the contracts of the two functions. Printed by exactgen.py of this work. -/
import Derived.Test.YtpjfpiohhgoeaaaDoorRows
import Derived.Test.YtpjfpiohhgoeaaaDoorLib
import Derived.Test.YtpjfpiohhgoeaaaDoorStr
import Derived.Test.YtpjfpiohhgoeaaaDoorEqS
import Derived.Test.YtpjfpiohhgoeaaaDoorSum
import Derived.Test.YtpjfpiohhgoeaaaDoorRow
import Derived.Deep.RegionHeld3
namespace Go.Proofs.YtpjfpiohhgoeaaaDoor.fnExactOrderedSumW
open Go.ChangeShapes Go.WideShapes Go.ChangeAt Go.RowKit
open Go.Proofs.YtpjfpiohhgoeaaaDoor.lib Go.Proofs.YtpjfpiohhgoeaaaDoor.st
set_option linter.unusedVariables false

set_option maxHeartbeats 1600000 in
theorem core (n0 : Int) (s0 r0 : ByteArray) (n1 : Int) (s1 r1 : ByteArray) (M0n : Int) (M0s M0r : ByteArray) (M1 : Bool) (w : World) (zs0 : s0.size ≤ maxLen) (zr0 : r0.size ≤ maxLen) (zs1 : s1.size ≤ maxLen) (zr1 : r1.size ≤ maxLen)
    (hspec : (s0.size + r0.size) + (s1.size + r1.size) ≤ 1048576 → ∀ (w : World), Calls Tryd.prog 32 #[.agg #[.int .i64 n0, .string s0, .string r0], .agg #[.int .i64 n1, .string s1, .string r1]] w fun e w' => e = .returned (.tuple #[.agg #[.int .i64 M0n, .string M0s, .string M0r], .bool M1]) ∧ Below w.heap.size w w')
    (himpl : (s0.size + r0.size) + (s1.size + r1.size) ≤ 1048576 → ∀ (w : World), Calls Tryd.prog 33 #[.agg #[.int .i64 n0, .string s0, .string r0], .agg #[.int .i64 n1, .string s1, .string r1]] w fun e w' => e = .returned (.tuple #[.agg #[.int .i64 M0n, .string M0s, .string M0r], .bool M1]) ∧ Below w.heap.size w w') :
    Calls Tryd.prog 10 #[.agg #[.int .i64 n0, .string s0, .string r0], .agg #[.int .i64 n1, .string s1, .string r1]] w fun e w' => e = .returned (.bool true) ∧ Below w.heap.size w w' := by
  unfold maxLen at zs0 zr0
  unfold maxLen at zs1 zr1
  have HSPEC := Lib.hid hspec
  have HIMPL := Lib.hid himpl
  clear hspec himpl
  obtain ⟨HB, hHB⟩ : ∃ HB, HB = w.heap.size + 1 + 1 := ⟨_, rfl⟩
  have BX0 : Hid (Box 26 ((w.alloc (.cells #[.int .i64 n0, .string s0, .string r0] 26)).alloc (.cells #[.int .i64 n1, .string s1, .string r1] 26)) (w.heap.size) n0 s0 r0) := (Box.new 26 w (w.heap.size) (by simp) n0 s0 r0).below ((Below.refl (w.heap.size + 1) _).alloc (by simp) _) (by omega)
  have BX1 : Hid (Box 26 ((w.alloc (.cells #[.int .i64 n0, .string s0, .string r0] 26)).alloc (.cells #[.int .i64 n1, .string s1, .string r1] 26)) (w.heap.size + 1) n1 s1 r1) := Box.new 26 (w.alloc (.cells #[.int .i64 n0, .string s0, .string r0] 26)) (w.heap.size + 1) (by simp) n1 s1 r1
  have AW0 : Hid (Below w.heap.size w ((w.alloc (.cells #[.int .i64 n0, .string s0, .string r0] 26)).alloc (.cells #[.int .i64 n1, .string s1, .string r1] 26))) := ((Below.refl w.heap.size w).alloc (Nat.le_refl _) _).alloc (by simp only [World.size_alloc]; omega) _
  have BW0 : Hid (Below HB ((w.alloc (.cells #[.int .i64 n0, .string s0, .string r0] 26)).alloc (.cells #[.int .i64 n1, .string s1, .string r1] 26)) ((w.alloc (.cells #[.int .i64 n0, .string s0, .string r0] 26)).alloc (.cells #[.int .i64 n1, .string s1, .string r1] 26))) := Below.refl _ _
  have HBS : Hid (((w.alloc (.cells #[.int .i64 n0, .string s0, .string r0] 26)).alloc (.cells #[.int .i64 n1, .string s1, .string r1] 26)).heap.size = HB) := by rw [hHB]; simp [Hid]
  have HHB := Lib.hid hHB
  clear hHB
  obtain ⟨left1, hlf1⟩ : ∃ q, q = szL s0 r0 1048576 := ⟨_, rfl⟩
  have hle1 : left1 ≤ 1048576 := by have := szL_le s0 r0 1048576 (by omega); omega
  have HLF1 := Lib.hid hlf1
  clear hlf1
  go_enter Tryd.func10, Tryd.ntmps10
  obtain ⟨b00, b01, b02⟩ := (BX0.out.below BW0.out (by have := HHB.out; omega)).c
  go_wp2_with fail
  clear b00 b01 b02
  refine (szStructure_any _ _ _ _ _ (by omega) (by omega) (by omega) (by omega)).mono ?_
  rintro e w1 ⟨rfl, hb⟩
  rw [← HLF1.out]
  have hb := hb.mono (show HB ≤ _ by have := HBS.out; omega)
  have AW1 : Hid (Below w.heap.size w w1) := AW0.out.trans (hb.mono (by have := HHB.out; omega))
  have BW1 : Hid (Below HB ((w.alloc (.cells #[.int .i64 n0, .string s0, .string r0] 26)).alloc (.cells #[.int .i64 n1, .string s1, .string r1] 26)) w1) := hb
  clear hb AW0 BW0
  by_cases gl1 : left1 < 0
  · go_wp2
    go_ret
    exact ⟨rfl, AW1.out⟩
  obtain ⟨left2, hlf2⟩ : ∃ q, q = szL s1 r1 left1 := ⟨_, rfl⟩
  have hle2 : left2 ≤ 1048576 := by have := szL_le s1 r1 left1 (by omega); omega
  have HLF2 := Lib.hid hlf2
  clear hlf2
  obtain ⟨b10, b11, b12⟩ := (BX1.out.below BW1.out (by have := HHB.out; omega)).c
  go_wp2_with fail
  clear b10 b11 b12
  refine (szStructure_any _ _ _ _ _ (by omega) (by omega) (by omega) (by omega)).mono ?_
  rintro e w2 ⟨rfl, hb⟩
  rw [← HLF2.out]
  have AW2 : Hid (Below w.heap.size w w2) := AW1.out.trans (hb.mono AW1.out.size)
  have BW2 : Hid (Below HB ((w.alloc (.cells #[.int .i64 n0, .string s0, .string r0] 26)).alloc (.cells #[.int .i64 n1, .string s1, .string r1] 26)) w2) := BW1.out.trans (hb.mono (by have := BW1.out.size; have := HBS.out; omega))
  clear AW1 BW1
  clear hb
  by_cases gl2 : left2 < 0
  · go_wp2
    go_ret
    exact ⟨rfl, AW2.out⟩
  have hsum1 := szL_sum s0 r0 1048576 (by rw [← HLF1.out]; omega) (by omega)
  rw [← HLF1.out] at hsum1
  have hsum2 := szL_sum s1 r1 left1 (by rw [← HLF2.out]; omega) (by omega)
  rw [← HLF2.out] at hsum2
  have hbs : (s0.size + r0.size) + (s1.size + r1.size) ≤ 1048576 := by omega
  have HBU : Hid ((s0.size + r0.size) + (s1.size + r1.size) ≤ 1048576) := hbs
  clear hbs hsum1 hsum2
  obtain ⟨b00, b01, b02⟩ := (BX0.out.below BW2.out (by have := HHB.out; omega)).c
  obtain ⟨b10, b11, b12⟩ := (BX1.out.below BW2.out (by have := HHB.out; omega)).c
  go_wp2_with fail
  go_cut [6, 7] from 6 to 27 (fun p o wx => ∃ B : Nat, p = .pointer (some ⟨B, 0, none⟩) ∧ o = .bool M1 ∧ w2.heap.size ≤ B ∧ Box 29 wx B M0n M0s M0r ∧ Below w2.heap.size w2 wx)
  case first =>
    have HC : Hid (Below w2.heap.size w2 w2.drew) := (Below.refl _ _).drew
    go_region_held3 (fun X => X.cell? ⟨w.heap.size, 0, none⟩ = some (.int .i64 n0) ∧ X.cell? ⟨w.heap.size, 1, none⟩ = some (.string s0) ∧ X.cell? ⟨w.heap.size, 2, none⟩ = some (.string r0) ∧ X.cell? ⟨w.heap.size + 1, 0, none⟩ = some (.int .i64 n1) ∧ X.cell? ⟨w.heap.size + 1, 1, none⟩ = some (.string s1) ∧ X.cell? ⟨w.heap.size + 1, 2, none⟩ = some (.string r1) ∧ Hid (Below w2.heap.size w2 X)) ((refine keepS2 ⟨b00, b01, b02, b10, b11, b12⟩ ?_; first | exact HC.out | exact HC.out.alloc HC.out.size _ | exact HC.out.trans (hb.mono HC.out.size) | exact Below.setCell (Below.setCell (Below.setCell (by first | exact HC.out | exact HC.out.alloc HC.out.size _) (by first | exact HC.out.size | assumption | exact Nat.le_refl _) _) (by first | exact HC.out.size | assumption | exact Nat.le_refl _) _) (by first | exact HC.out.size | assumption | exact Nat.le_refl _) _)) (first | (go_at_call 15; with_reducible refine (toStructure_any n0 s0 r0 _).mono ?_; rintro e X ⟨rfl, hb⟩; (first | have HC := keepBelow hb HC | have HC := keepBelow hb (Lib.hid (HC.out.alloc HC.out.size _))); have hz := HC.out.size; (first | have hbx := Box.below hbx hb hbx.lt | have hbx := Box.below (Box.new 29 w2.drew w2.heap.size rfl 0 ⟨#[]⟩ ⟨#[]⟩) hb (by simp) | have hbx := Box.below (Box.new 29 _ _ rfl 0 ⟨#[]⟩ ⟨#[]⟩) hb (by simp) | skip)) | (go_at_call 15; with_reducible refine (toStructure_any n1 s1 r1 _).mono ?_; rintro e X ⟨rfl, hb⟩; (first | have HC := keepBelow hb HC | have HC := keepBelow hb (Lib.hid (HC.out.alloc HC.out.size _))); have hz := HC.out.size; (first | have hbx := Box.below hbx hb hbx.lt | have hbx := Box.below (Box.new 29 w2.drew w2.heap.size rfl 0 ⟨#[]⟩ ⟨#[]⟩) hb (by simp) | have hbx := Box.below (Box.new 29 _ _ rfl 0 ⟨#[]⟩ ⟨#[]⟩) hb (by simp) | skip)) | (go_at_call 32; refine (HSPEC.out HBU.out _).mono ?_; rintro e X ⟨rfl, hb⟩; (first | have HC := keepBelow hb HC | have HC := keepBelow hb (Lib.hid (HC.out.alloc HC.out.size _))); have hz := HC.out.size; (first | have hbx := Box.below hbx hb hbx.lt | have hbx := Box.below (Box.new 29 w2.drew w2.heap.size rfl 0 ⟨#[]⟩ ⟨#[]⟩) hb (by simp) | have hbx := Box.below (Box.new 29 _ _ rfl 0 ⟨#[]⟩ ⟨#[]⟩) hb (by simp) | skip); (first | (obtain ⟨x0, x1, x2⟩ := hbx.c; have y0 := hbx.free 0; have y1 := hbx.free 1; have y2 := hbx.free 2) | skip)))
    all_goals go_wp2_with fail
    all_goals go_meet
    all_goals first
      | exact ⟨_, rfl, rfl, (by first | exact HC.out.size | assumption | exact Nat.le_refl _), ((hbx.set0 M0n).set1 M0s).set2 M0r, Below.setCell (Below.setCell (Below.setCell HC.out (by first | exact HC.out.size | assumption | exact Nat.le_refl _) (.int .i64 M0n)) (by first | exact HC.out.size | assumption | exact Nat.le_refl _) (.string M0s)) (by first | exact HC.out.size | assumption | exact Nat.le_refl _) (.string M0r)⟩
      | exact ⟨_, rfl, rfl, HC.out.size, Box.new 29 _ _ rfl _ _ _, HC.out.alloc HC.out.size _⟩
  case rest =>
  obtain ⟨B0, rfl, rfl, hB0, hbx0, hb⟩ := hcut
  have HBX0 := Lib.hid hbx0
  clear hbx0 hB0
  obtain ⟨w3, rfl⟩ : ∃ q : World, q = wc := ⟨_, rfl⟩
  clear b00 b01 b02
  clear b10 b11 b12
  have AW3 : Hid (Below w.heap.size w w3) := AW2.out.trans (hb.mono AW2.out.size)
  have BW3 : Hid (Below HB ((w.alloc (.cells #[.int .i64 n0, .string s0, .string r0] 26)).alloc (.cells #[.int .i64 n1, .string s1, .string r1] 26)) w3) := BW2.out.trans (hb.mono (by have := BW2.out.size; have := HBS.out; omega))
  clear AW2 BW2
  clear hb
  obtain ⟨b00, b01, b02⟩ := (BX0.out.below BW3.out (by have := HHB.out; omega)).c
  obtain ⟨b10, b11, b12⟩ := (BX1.out.below BW3.out (by have := HHB.out; omega)).c
  go_wp2_with fail
  go_cut [8, 9] from 8 to 35 (fun p o wx => ∃ B : Nat, p = .pointer (some ⟨B, 0, none⟩) ∧ o = .bool M1 ∧ w3.heap.size ≤ B ∧ Box 29 wx B M0n M0s M0r ∧ Below w3.heap.size w3 wx)
  case first =>
    have HC : Hid (Below w3.heap.size w3 w3.drew) := (Below.refl _ _).drew
    go_region_held3 (fun X => X.cell? ⟨w.heap.size, 0, none⟩ = some (.int .i64 n0) ∧ X.cell? ⟨w.heap.size, 1, none⟩ = some (.string s0) ∧ X.cell? ⟨w.heap.size, 2, none⟩ = some (.string r0) ∧ X.cell? ⟨w.heap.size + 1, 0, none⟩ = some (.int .i64 n1) ∧ X.cell? ⟨w.heap.size + 1, 1, none⟩ = some (.string s1) ∧ X.cell? ⟨w.heap.size + 1, 2, none⟩ = some (.string r1) ∧ Hid (Below w3.heap.size w3 X)) ((refine keepS2 ⟨b00, b01, b02, b10, b11, b12⟩ ?_; first | exact HC.out | exact HC.out.alloc HC.out.size _ | exact HC.out.trans (hb.mono HC.out.size) | exact Below.setCell (Below.setCell (Below.setCell (by first | exact HC.out | exact HC.out.alloc HC.out.size _) (by first | exact HC.out.size | assumption | exact Nat.le_refl _) _) (by first | exact HC.out.size | assumption | exact Nat.le_refl _) _) (by first | exact HC.out.size | assumption | exact Nat.le_refl _) _)) (first | (go_at_call 15; with_reducible refine (toStructure_any n0 s0 r0 _).mono ?_; rintro e X ⟨rfl, hb⟩; (first | have HC := keepBelow hb HC | have HC := keepBelow hb (Lib.hid (HC.out.alloc HC.out.size _))); have hz := HC.out.size; (first | have hbx := Box.below hbx hb hbx.lt | have hbx := Box.below (Box.new 29 w3.drew w3.heap.size rfl 0 ⟨#[]⟩ ⟨#[]⟩) hb (by simp) | have hbx := Box.below (Box.new 29 _ _ rfl 0 ⟨#[]⟩ ⟨#[]⟩) hb (by simp) | skip)) | (go_at_call 15; with_reducible refine (toStructure_any n1 s1 r1 _).mono ?_; rintro e X ⟨rfl, hb⟩; (first | have HC := keepBelow hb HC | have HC := keepBelow hb (Lib.hid (HC.out.alloc HC.out.size _))); have hz := HC.out.size; (first | have hbx := Box.below hbx hb hbx.lt | have hbx := Box.below (Box.new 29 w3.drew w3.heap.size rfl 0 ⟨#[]⟩ ⟨#[]⟩) hb (by simp) | have hbx := Box.below (Box.new 29 _ _ rfl 0 ⟨#[]⟩ ⟨#[]⟩) hb (by simp) | skip)) | (go_at_call 33; refine (HIMPL.out HBU.out _).mono ?_; rintro e X ⟨rfl, hb⟩; (first | have HC := keepBelow hb HC | have HC := keepBelow hb (Lib.hid (HC.out.alloc HC.out.size _))); have hz := HC.out.size; (first | have hbx := Box.below hbx hb hbx.lt | have hbx := Box.below (Box.new 29 w3.drew w3.heap.size rfl 0 ⟨#[]⟩ ⟨#[]⟩) hb (by simp) | have hbx := Box.below (Box.new 29 _ _ rfl 0 ⟨#[]⟩ ⟨#[]⟩) hb (by simp) | skip); (first | (obtain ⟨x0, x1, x2⟩ := hbx.c; have y0 := hbx.free 0; have y1 := hbx.free 1; have y2 := hbx.free 2) | skip)))
    all_goals go_wp2_with fail
    all_goals go_meet
    all_goals first
      | exact ⟨_, rfl, rfl, (by first | exact HC.out.size | assumption | exact Nat.le_refl _), ((hbx.set0 M0n).set1 M0s).set2 M0r, Below.setCell (Below.setCell (Below.setCell HC.out (by first | exact HC.out.size | assumption | exact Nat.le_refl _) (.int .i64 M0n)) (by first | exact HC.out.size | assumption | exact Nat.le_refl _) (.string M0s)) (by first | exact HC.out.size | assumption | exact Nat.le_refl _) (.string M0r)⟩
      | exact ⟨_, rfl, rfl, HC.out.size, Box.new 29 _ _ rfl _ _ _, HC.out.alloc HC.out.size _⟩
  case rest =>
  obtain ⟨B1, rfl, rfl, hB1, hbx1, hb⟩ := hcut
  have HBX1 := Lib.hid hbx1
  clear hbx1 hB1
  obtain ⟨w4, rfl⟩ : ∃ q : World, q = wc := ⟨_, rfl⟩
  clear b00 b01 b02
  clear b10 b11 b12
  have HBX0 := Lib.hid (HBX0.out.below hb HBX0.out.lt)
  have AW4 : Hid (Below w.heap.size w w4) := AW3.out.trans (hb.mono AW3.out.size)
  have BW4 : Hid (Below HB ((w.alloc (.cells #[.int .i64 n0, .string s0, .string r0] 26)).alloc (.cells #[.int .i64 n1, .string s1, .string r1] 26)) w4) := BW3.out.trans (hb.mono (by have := BW3.out.size; have := HBS.out; omega))
  clear AW3 BW3
  clear hb
  obtain ⟨q00, q01, q02⟩ := HBX0.out.c
  obtain ⟨q10, q11, q12⟩ := HBX1.out.c
  go_wp2_with fail
  refine (eqStructure_same _ _ _ _).mono ?_
  rintro e w5 ⟨rfl, hb⟩
  have AW5 : Hid (Below w.heap.size w w5) := AW4.out.trans (hb.mono AW4.out.size)
  have BW5 : Hid (Below HB ((w.alloc (.cells #[.int .i64 n0, .string s0, .string r0] 26)).alloc (.cells #[.int .i64 n1, .string s1, .string r1] 26)) w5) := BW4.out.trans (hb.mono (by have := BW4.out.size; have := HBS.out; omega))
  clear AW4 BW4
  clear hb
  go_wp2
  go_ret
  exact ⟨rfl, AW5.out⟩

theorem walk (n0 : Int) (s0 r0 : ByteArray) (n1 : Int) (s1 r1 : ByteArray) (w : World) (zn0 : (Lit.int .i64 n0).wf = true) (zs0 : s0.size ≤ maxLen) (zr0 : r0.size ≤ maxLen) (zn1 : (Lit.int .i64 n1).wf = true) (zs1 : s1.size ≤ maxLen) (zr1 : r1.size ≤ maxLen) :
    Calls Tryd.prog 10 #[.agg #[.int .i64 n0, .string s0, .string r0], .agg #[.int .i64 n1, .string s1, .string r1]] w fun e w' => e = .returned (.bool true) ∧ Below w.heap.size w w' := by
  exact core n0 s0 r0 n1 s1 r1 _ _ _ _ w zs0 zr0 zs1 zr1  (sum.ordr.specE n0 s0 r0 n1 s1 r1 zn0 zn1) (sum.ordr.implE n0 s0 r0 n1 s1 r1 zn0 zn1)
end Go.Proofs.YtpjfpiohhgoeaaaDoor.fnExactOrderedSumW
