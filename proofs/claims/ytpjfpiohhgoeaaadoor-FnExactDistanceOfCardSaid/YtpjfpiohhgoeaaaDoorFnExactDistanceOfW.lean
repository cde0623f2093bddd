/- The walk of FnExactDistanceOf, over the contracts of the two functions. Printed by exactgen.py of this work. -/
import Derived.Test.YtpjfpiohhgoeaaaDoorRows
import Derived.Test.YtpjfpiohhgoeaaaDoorLib
import Derived.Test.YtpjfpiohhgoeaaaDoorStr
import Derived.Test.YtpjfpiohhgoeaaaDoorDistO
import Derived.Test.YtpjfpiohhgoeaaaDoorRow
namespace Go.Proofs.YtpjfpiohhgoeaaaDoor.fnExactDistanceOfW
set_option linter.unusedVariables false
set_option linter.unusedSimpArgs false
open Go.ChangeShapes Go.WideShapes Go.ChangeAt Go.RowKit
open Go.Proofs.YtpjfpiohhgoeaaaDoor.lib Go.Proofs.YtpjfpiohhgoeaaaDoor.st
set_option linter.unusedVariables false

set_option maxHeartbeats 1600000 in
theorem core (n0 : Int) (s0 r0 : ByteArray) (a1 : Int) (a2 : Int) (M0 : Int) (w : World) (zs0 : s0.size ≤ maxLen) (zr0 : r0.size ≤ maxLen)
    (hspec : s0.size + r0.size ≤ 1048576 → ∀ (w : World), Calls Tryd.prog 25 #[.agg #[.int .i64 n0, .string s0, .string r0], .int .i64 a1, .int .i64 a2] w fun e w' => e = .returned (.int .i64 M0) ∧ Below w.heap.size w w')
    (himpl : s0.size + r0.size ≤ 1048576 → ∀ (w : World), Calls Tryd.prog 26 #[.agg #[.int .i64 n0, .string s0, .string r0], .int .i64 a1, .int .i64 a2] w fun e w' => e = .returned (.int .i64 M0) ∧ Below w.heap.size w w') :
    Calls Tryd.prog 7 #[.agg #[.int .i64 n0, .string s0, .string r0], .int .i64 a1, .int .i64 a2] w fun e w' => e = .returned (.bool true) ∧ Below w.heap.size w w' := by
  unfold maxLen at zs0 zr0
  have HSPEC := Lib.hid hspec
  have HIMPL := Lib.hid himpl
  clear hspec himpl
  obtain ⟨HB, hHB⟩ : ∃ HB, HB = w.heap.size + 1 := ⟨_, rfl⟩
  have BX0 : Hid (Box 26 (w.alloc (.cells #[.int .i64 n0, .string s0, .string r0] 26)) (w.heap.size) n0 s0 r0) := Box.new 26 w (w.heap.size) (by simp) n0 s0 r0
  have AW0 : Hid (Below w.heap.size w (w.alloc (.cells #[.int .i64 n0, .string s0, .string r0] 26))) := (Below.refl w.heap.size w).alloc (Nat.le_refl _) _
  have BW0 : Hid (Below HB (w.alloc (.cells #[.int .i64 n0, .string s0, .string r0] 26)) (w.alloc (.cells #[.int .i64 n0, .string s0, .string r0] 26))) := Below.refl _ _
  have HBS : Hid ((w.alloc (.cells #[.int .i64 n0, .string s0, .string r0] 26)).heap.size = HB) := by rw [hHB]; simp [Hid]
  have HHB := Lib.hid hHB
  clear hHB
  obtain ⟨left1, hlf1⟩ : ∃ q, q = szL s0 r0 1048576 := ⟨_, rfl⟩
  have hle1 : left1 ≤ 1048576 := by have := szL_le s0 r0 1048576 (by omega); omega
  have HLF1 := Lib.hid hlf1
  clear hlf1
  go_enter Tryd.func7, Tryd.ntmps7
  obtain ⟨b00, b01, b02⟩ := (BX0.out.below BW0.out (by have := HHB.out; omega)).c
  go_wp2_with fail
  clear b00 b01 b02
  refine (szStructure_any _ _ _ _ _ (by omega) (by omega) (by omega) (by omega)).mono ?_
  rintro e w1 ⟨rfl, hb⟩
  rw [← HLF1.out]
  have hb := hb.mono (show HB ≤ _ by have := HBS.out; omega)
  have AW1 : Hid (Below w.heap.size w w1) := AW0.out.trans (hb.mono (by have := HHB.out; omega))
  have BW1 : Hid (Below HB (w.alloc (.cells #[.int .i64 n0, .string s0, .string r0] 26)) w1) := hb
  clear hb AW0 BW0
  by_cases gl1 : left1 < 0
  · go_wp2
    go_ret
    exact ⟨rfl, AW1.out⟩
  have hsum1 := szL_sum s0 r0 1048576 (by rw [← HLF1.out]; omega) (by omega)
  rw [← HLF1.out] at hsum1
  have hbs : s0.size + r0.size ≤ 1048576 := by omega
  have HBU : Hid (s0.size + r0.size ≤ 1048576) := hbs
  clear hbs hsum1
  obtain ⟨b00, b01, b02⟩ := (BX0.out.below BW1.out (by have := HHB.out; omega)).c
  go_wp2_with fail
  clear b00 b01 b02
  refine (toStructure_any _ _ _ _).mono ?_
  rintro e w2 ⟨rfl, hb⟩
  have AW2 : Hid (Below w.heap.size w w2) := AW1.out.trans (hb.mono AW1.out.size)
  have BW2 : Hid (Below HB (w.alloc (.cells #[.int .i64 n0, .string s0, .string r0] 26)) w2) := BW1.out.trans (hb.mono (by have := BW1.out.size; have := HBS.out; omega))
  clear AW1 BW1
  clear hb
  go_wp2_with fail
  refine (HSPEC.out HBU.out _).mono ?_
  rintro e w3 ⟨rfl, hb⟩
  have AW3 : Hid (Below w.heap.size w w3) := AW2.out.trans (hb.mono AW2.out.size)
  have BW3 : Hid (Below HB (w.alloc (.cells #[.int .i64 n0, .string s0, .string r0] 26)) w3) := BW2.out.trans (hb.mono (by have := BW2.out.size; have := HBS.out; omega))
  clear AW2 BW2
  clear hb
  obtain ⟨b00, b01, b02⟩ := (BX0.out.below BW3.out (by have := HHB.out; omega)).c
  go_wp2_with fail
  clear b00 b01 b02
  refine (toStructure_any _ _ _ _).mono ?_
  rintro e w4 ⟨rfl, hb⟩
  have AW4 : Hid (Below w.heap.size w w4) := AW3.out.trans (hb.mono AW3.out.size)
  have BW4 : Hid (Below HB (w.alloc (.cells #[.int .i64 n0, .string s0, .string r0] 26)) w4) := BW3.out.trans (hb.mono (by have := BW3.out.size; have := HBS.out; omega))
  clear AW3 BW3
  clear hb
  go_wp2_with fail
  refine (HIMPL.out HBU.out _).mono ?_
  rintro e w5 ⟨rfl, hb⟩
  have AW5 : Hid (Below w.heap.size w w5) := AW4.out.trans (hb.mono AW4.out.size)
  have BW5 : Hid (Below HB (w.alloc (.cells #[.int .i64 n0, .string s0, .string r0] 26)) w5) := BW4.out.trans (hb.mono (by have := BW4.out.size; have := HBS.out; omega))
  clear AW4 BW4
  clear hb
  go_wp2
  go_ret
  exact ⟨rfl, AW5.out⟩

theorem walk (n0 : Int) (s0 r0 : ByteArray) (a1 : Int) (a2 : Int) (w : World) (zn0 : (Lit.int .i64 n0).wf = true) (zs0 : s0.size ≤ maxLen) (zr0 : r0.size ≤ maxLen) (w1 : (Lit.int .i64 a1).wf = true) (w2 : (Lit.int .i64 a2).wf = true) :
    Calls Tryd.prog 7 #[.agg #[.int .i64 n0, .string s0, .string r0], .int .i64 a1, .int .i64 a2] w fun e w' => e = .returned (.bool true) ∧ Below w.heap.size w w' := by
  exact core n0 s0 r0 a1 a2 _ w zs0 zr0  (dist.specE n0 s0 r0 a1 a2 zn0 w1 w2) (dist.implE n0 s0 r0 a1 a2 zn0 w1 w2)
end Go.Proofs.YtpjfpiohhgoeaaaDoor.fnExactDistanceOfW
