/- The walk of FnExactColourRound, over the contracts of the two functions. Printed by exactgen.py of this work. -/
import Derived.Test.YtglehegjimhbjaaDoorRows
import Derived.Test.YtglehegjimhbjaaDoorLib
import Derived.Test.YtglehegjimhbjaaDoorStr
import Derived.Test.YtglehegjimhbjaaDoorColE
import Derived.Test.YtglehegjimhbjaaDoorRow
import Derived.Deep.RegionHeld3
namespace Go.Proofs.YtglehegjimhbjaaDoor.fnExactColourRoundW
set_option linter.unusedVariables false
set_option linter.unusedSimpArgs false
open Go.ChangeShapes Go.WideShapes Go.ChangeAt Go.RowKit
open Go.Proofs.YtglehegjimhbjaaDoor.lib Go.Proofs.YtglehegjimhbjaaDoor.st
set_option linter.unusedVariables false

set_option maxHeartbeats 1600000 in
theorem core (n0 : Int) (s0 r0 : ByteArray) (n1 : Int) (s1 r1 : ByteArray) (M0 : Int) (w : World) (zs0 : s0.size ≤ maxLen) (zr0 : r0.size ≤ maxLen) (zs1 : s1.size ≤ maxLen) (zr1 : r1.size ≤ maxLen)
    (hspec : (s0.size + r0.size) + (s1.size + r1.size) ≤ 1048576 → ∀ (w : World), Calls Tryd.prog 20 #[.agg #[.int .i64 n0, .string s0, .string r0], .agg #[.int .i64 n1, .string s1, .string r1]] w fun e w' => e = .returned (.int .i64 M0) ∧ Below w.heap.size w w')
    (himpl : (s0.size + r0.size) + (s1.size + r1.size) ≤ 1048576 → ∀ (w : World), Calls Tryd.prog 21 #[.agg #[.int .i64 n0, .string s0, .string r0], .agg #[.int .i64 n1, .string s1, .string r1]] w fun e w' => e = .returned (.int .i64 M0) ∧ Below w.heap.size w w') :
    Calls Tryd.prog 6 #[.agg #[.int .i64 n0, .string s0, .string r0], .agg #[.int .i64 n1, .string s1, .string r1]] w fun e w' => e = .returned (.bool true) ∧ Below w.heap.size w w' := by
  unfold maxLen at zs0 zr0
  unfold maxLen at zs1 zr1
  have HSPEC := Lib.hid hspec
  have HIMPL := Lib.hid himpl
  clear hspec himpl
  obtain ⟨HB, hHB⟩ : ∃ HB, HB = w.heap.size + 1 + 1 := ⟨_, rfl⟩
  have BX0 : Hid (Box 23 ((w.alloc (.cells #[.int .i64 n0, .string s0, .string r0] 23)).alloc (.cells #[.int .i64 n1, .string s1, .string r1] 23)) (w.heap.size) n0 s0 r0) := (Box.new 23 w (w.heap.size) (by simp) n0 s0 r0).below ((Below.refl (w.heap.size + 1) _).alloc (by simp) _) (by omega)
  have BX1 : Hid (Box 23 ((w.alloc (.cells #[.int .i64 n0, .string s0, .string r0] 23)).alloc (.cells #[.int .i64 n1, .string s1, .string r1] 23)) (w.heap.size + 1) n1 s1 r1) := Box.new 23 (w.alloc (.cells #[.int .i64 n0, .string s0, .string r0] 23)) (w.heap.size + 1) (by simp) n1 s1 r1
  have AW0 : Hid (Below w.heap.size w ((w.alloc (.cells #[.int .i64 n0, .string s0, .string r0] 23)).alloc (.cells #[.int .i64 n1, .string s1, .string r1] 23))) := ((Below.refl w.heap.size w).alloc (Nat.le_refl _) _).alloc (by simp only [World.size_alloc]; omega) _
  have BW0 : Hid (Below HB ((w.alloc (.cells #[.int .i64 n0, .string s0, .string r0] 23)).alloc (.cells #[.int .i64 n1, .string s1, .string r1] 23)) ((w.alloc (.cells #[.int .i64 n0, .string s0, .string r0] 23)).alloc (.cells #[.int .i64 n1, .string s1, .string r1] 23))) := Below.refl _ _
  have HBS : Hid (((w.alloc (.cells #[.int .i64 n0, .string s0, .string r0] 23)).alloc (.cells #[.int .i64 n1, .string s1, .string r1] 23)).heap.size = HB) := by rw [hHB]; simp [Hid]
  have HHB := Lib.hid hHB
  clear hHB
  obtain ⟨left1, hlf1⟩ : ∃ q, q = szL s0 r0 1048576 := ⟨_, rfl⟩
  have hle1 : left1 ≤ 1048576 := by have := szL_le s0 r0 1048576 (by omega); omega
  have HLF1 := Lib.hid hlf1
  clear hlf1
  go_enter Tryd.func6, Tryd.ntmps6
  obtain ⟨b00, b01, b02⟩ := (BX0.out.below BW0.out (by have := HHB.out; omega)).c
  go_wp2_with fail
  clear b00 b01 b02
  refine (szStructure_any _ _ _ _ _ (by omega) (by omega) (by omega) (by omega)).mono ?_
  rintro e w1 ⟨rfl, hb⟩
  rw [← HLF1.out]
  have hb := hb.mono (show HB ≤ _ by have := HBS.out; omega)
  have AW1 : Hid (Below w.heap.size w w1) := AW0.out.trans (hb.mono (by have := HHB.out; omega))
  have BW1 : Hid (Below HB ((w.alloc (.cells #[.int .i64 n0, .string s0, .string r0] 23)).alloc (.cells #[.int .i64 n1, .string s1, .string r1] 23)) w1) := hb
  clear hb AW0 BW0
  by_cases gl1 : left1 < 0
  · go_wp2
    go_ret
    exact ⟨rfl, AW1.out⟩
  obtain ⟨left2, hlf2⟩ : ∃ q, q = szL s1 r1 left1 := ⟨_, rfl⟩
  have hle2 : left2 ≤ 1048576 := by have := szL_le s1 r1 left1 (by omega); omega
  have HLF2 := Lib.hid hlf2
  clear hlf2
  obtain ⟨b10, b11, b12⟩ := (BX1.out.below BW1.out (by have := HHB.out; omega)).c
  go_wp2_with fail
  clear b10 b11 b12
  refine (szStructure_any _ _ _ _ _ (by omega) (by omega) (by omega) (by omega)).mono ?_
  rintro e w2 ⟨rfl, hb⟩
  rw [← HLF2.out]
  have AW2 : Hid (Below w.heap.size w w2) := AW1.out.trans (hb.mono AW1.out.size)
  have BW2 : Hid (Below HB ((w.alloc (.cells #[.int .i64 n0, .string s0, .string r0] 23)).alloc (.cells #[.int .i64 n1, .string s1, .string r1] 23)) w2) := BW1.out.trans (hb.mono (by have := BW1.out.size; have := HBS.out; omega))
  clear AW1 BW1
  clear hb
  by_cases gl2 : left2 < 0
  · go_wp2
    go_ret
    exact ⟨rfl, AW2.out⟩
  have hsum1 := szL_sum s0 r0 1048576 (by rw [← HLF1.out]; omega) (by omega)
  rw [← HLF1.out] at hsum1
  have hsum2 := szL_sum s1 r1 left1 (by rw [← HLF2.out]; omega) (by omega)
  rw [← HLF2.out] at hsum2
  have hbs : (s0.size + r0.size) + (s1.size + r1.size) ≤ 1048576 := by omega
  have HBU : Hid ((s0.size + r0.size) + (s1.size + r1.size) ≤ 1048576) := hbs
  clear hbs hsum1 hsum2
  obtain ⟨b00, b01, b02⟩ := (BX0.out.below BW2.out (by have := HHB.out; omega)).c
  obtain ⟨b10, b11, b12⟩ := (BX1.out.below BW2.out (by have := HHB.out; omega)).c
  go_wp2_with fail
  have AA2 : Hid (Below w2.heap.size w2 w2.drew) := (Below.refl _ _).drew
  go_region_held3 (fun X => X.cell? ⟨w.heap.size, 0, none⟩ = some (.int .i64 n0) ∧ X.cell? ⟨w.heap.size, 1, none⟩ = some (.string s0) ∧ X.cell? ⟨w.heap.size, 2, none⟩ = some (.string r0) ∧ X.cell? ⟨w.heap.size + 1, 0, none⟩ = some (.int .i64 n1) ∧ X.cell? ⟨w.heap.size + 1, 1, none⟩ = some (.string s1) ∧ X.cell? ⟨w.heap.size + 1, 2, none⟩ = some (.string r1) ∧ Hid (Below w2.heap.size w2 X)) (first | exact ⟨b00, b01, b02, b10, b11, b12, AA2⟩ | exact keep6 hb ⟨b00, b01, b02, b10, b11, b12, AA2⟩ | exact keep6 hb (by assumption)) (first | (go_at_call 11; with_reducible refine (toStructure_any n0 s0 r0 _).mono ?_; rintro e X ⟨rfl, hb⟩) | (go_at_call 11; with_reducible refine (toStructure_any n1 s1 r1 _).mono ?_; rintro e X ⟨rfl, hb⟩) | (go_at_call 20; refine (HSPEC.out HBU.out _).mono ?_; rintro e w3 ⟨rfl, hb⟩))
  have hb : Below w2.heap.size w2 w3 := out6 (by assumption)
  clear AA2
  clear b00 b01 b02
  clear b10 b11 b12
  have AW3 : Hid (Below w.heap.size w w3) := AW2.out.trans (hb.mono AW2.out.size)
  have BW3 : Hid (Below HB ((w.alloc (.cells #[.int .i64 n0, .string s0, .string r0] 23)).alloc (.cells #[.int .i64 n1, .string s1, .string r1] 23)) w3) := BW2.out.trans (hb.mono (by have := BW2.out.size; have := HBS.out; omega))
  clear AW2 BW2
  clear hb
  obtain ⟨b00, b01, b02⟩ := (BX0.out.below BW3.out (by have := HHB.out; omega)).c
  obtain ⟨b10, b11, b12⟩ := (BX1.out.below BW3.out (by have := HHB.out; omega)).c
  go_wp2_with fail
  have AA3 : Hid (Below w3.heap.size w3 w3.drew) := (Below.refl _ _).drew
  go_region_held3 (fun X => X.cell? ⟨w.heap.size, 0, none⟩ = some (.int .i64 n0) ∧ X.cell? ⟨w.heap.size, 1, none⟩ = some (.string s0) ∧ X.cell? ⟨w.heap.size, 2, none⟩ = some (.string r0) ∧ X.cell? ⟨w.heap.size + 1, 0, none⟩ = some (.int .i64 n1) ∧ X.cell? ⟨w.heap.size + 1, 1, none⟩ = some (.string s1) ∧ X.cell? ⟨w.heap.size + 1, 2, none⟩ = some (.string r1) ∧ Hid (Below w3.heap.size w3 X)) (first | exact ⟨b00, b01, b02, b10, b11, b12, AA3⟩ | exact keep6 hb ⟨b00, b01, b02, b10, b11, b12, AA3⟩ | exact keep6 hb (by assumption)) (first | (go_at_call 11; with_reducible refine (toStructure_any n0 s0 r0 _).mono ?_; rintro e X ⟨rfl, hb⟩) | (go_at_call 11; with_reducible refine (toStructure_any n1 s1 r1 _).mono ?_; rintro e X ⟨rfl, hb⟩) | (go_at_call 21; refine (HIMPL.out HBU.out _).mono ?_; rintro e w4 ⟨rfl, hb⟩))
  have hb : Below w3.heap.size w3 w4 := out6 (by assumption)
  clear AA3
  clear b00 b01 b02
  clear b10 b11 b12
  have AW4 : Hid (Below w.heap.size w w4) := AW3.out.trans (hb.mono AW3.out.size)
  have BW4 : Hid (Below HB ((w.alloc (.cells #[.int .i64 n0, .string s0, .string r0] 23)).alloc (.cells #[.int .i64 n1, .string s1, .string r1] 23)) w4) := BW3.out.trans (hb.mono (by have := BW3.out.size; have := HBS.out; omega))
  clear AW3 BW3
  clear hb
  go_wp2
  go_ret
  exact ⟨rfl, AW4.out⟩

theorem walk (n0 : Int) (s0 r0 : ByteArray) (n1 : Int) (s1 r1 : ByteArray) (w : World) (zn0 : (Lit.int .i64 n0).wf = true) (zs0 : s0.size ≤ maxLen) (zr0 : r0.size ≤ maxLen) (zn1 : (Lit.int .i64 n1).wf = true) (zs1 : s1.size ≤ maxLen) (zr1 : r1.size ≤ maxLen) :
    Calls Tryd.prog 6 #[.agg #[.int .i64 n0, .string s0, .string r0], .agg #[.int .i64 n1, .string s1, .string r1]] w fun e w' => e = .returned (.bool true) ∧ Below w.heap.size w w' := by
  exact core n0 s0 r0 n1 s1 r1 _ w zs0 zr0 zs1 zr1  (cole.rnd.specE n0 s0 r0 n1 s1 r1 zn0 zn1) (cole.rnd.implE n0 s0 r0 n1 s1 r1 zn0 zn1)
end Go.Proofs.YtglehegjimhbjaaDoor.fnExactColourRoundW
