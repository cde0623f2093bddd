/- The walk of FnExactCopiesOf, over the contracts of the two functions. Printed by exactgen.py of this work. -/
import Derived.Test.YtlnmebjbinmeiaaDoorRows
import Derived.Test.YtlnmebjbinmeiaaDoorLib
import Derived.Test.YtlnmebjbinmeiaaDoorStr
import Derived.Test.YtlnmebjbinmeiaaDoorEqS
import Derived.Test.YtlnmebjbinmeiaaDoorCopies
import Derived.Test.YtlnmebjbinmeiaaDoorRow
import Derived.Deep.RegionHeld3
namespace Go.Proofs.YtlnmebjbinmeiaaDoor.fnExactCopiesOfW
set_option linter.unusedVariables false
set_option linter.unusedSimpArgs false
open Go.ChangeShapes Go.WideShapes Go.ChangeAt Go.RowKit
open Go.Proofs.YtlnmebjbinmeiaaDoor.lib Go.Proofs.YtlnmebjbinmeiaaDoor.st
set_option linter.unusedVariables false

set_option maxHeartbeats 1600000 in
theorem core (n0 : Int) (s0 r0 : ByteArray) (a1 : Int) (M0n : Int) (M0s M0r : ByteArray) (M1 : Bool) (w : World) (zs0 : s0.size ≤ maxLen) (zr0 : r0.size ≤ maxLen)
    (hspec : s0.size + r0.size ≤ 1048576 → ∀ (w : World), Calls Tryd.prog 16 #[.agg #[.int .i64 n0, .string s0, .string r0], .int .i64 a1] w fun e w' => e = .returned (.tuple #[.agg #[.int .i64 M0n, .string M0s, .string M0r], .bool M1]) ∧ Below w.heap.size w w')
    (himpl : s0.size + r0.size ≤ 1048576 → ∀ (w : World), Calls Tryd.prog 18 #[.agg #[.int .i64 n0, .string s0, .string r0], .int .i64 a1] w fun e w' => e = .returned (.tuple #[.agg #[.int .i64 M0n, .string M0s, .string M0r], .bool M1]) ∧ Below w.heap.size w w') :
    Calls Tryd.prog 3 #[.agg #[.int .i64 n0, .string s0, .string r0], .int .i64 a1] w fun e w' => e = .returned (.bool true) ∧ Below w.heap.size w w' := by
  unfold maxLen at zs0 zr0
  have HSPEC := Lib.hid hspec
  have HIMPL := Lib.hid himpl
  clear hspec himpl
  obtain ⟨HB, hHB⟩ : ∃ HB, HB = w.heap.size + 1 := ⟨_, rfl⟩
  have BX0 : Hid (Box 23 (w.alloc (.cells #[.int .i64 n0, .string s0, .string r0] 23)) (w.heap.size) n0 s0 r0) := Box.new 23 w (w.heap.size) (by simp) n0 s0 r0
  have AW0 : Hid (Below w.heap.size w (w.alloc (.cells #[.int .i64 n0, .string s0, .string r0] 23))) := (Below.refl w.heap.size w).alloc (Nat.le_refl _) _
  have BW0 : Hid (Below HB (w.alloc (.cells #[.int .i64 n0, .string s0, .string r0] 23)) (w.alloc (.cells #[.int .i64 n0, .string s0, .string r0] 23))) := Below.refl _ _
  have HBS : Hid ((w.alloc (.cells #[.int .i64 n0, .string s0, .string r0] 23)).heap.size = HB) := by rw [hHB]; simp [Hid]
  have HHB := Lib.hid hHB
  clear hHB
  obtain ⟨left1, hlf1⟩ : ∃ q, q = szL s0 r0 1048576 := ⟨_, rfl⟩
  have hle1 : left1 ≤ 1048576 := by have := szL_le s0 r0 1048576 (by omega); omega
  have HLF1 := Lib.hid hlf1
  clear hlf1
  go_enter Tryd.func3, Tryd.ntmps3
  obtain ⟨b00, b01, b02⟩ := (BX0.out.below BW0.out (by have := HHB.out; omega)).c
  go_wp2_with fail
  clear b00 b01 b02
  refine (szStructure_any _ _ _ _ _ (by omega) (by omega) (by omega) (by omega)).mono ?_
  rintro e w1 ⟨rfl, hb⟩
  rw [← HLF1.out]
  have hb := hb.mono (show HB ≤ _ by have := HBS.out; omega)
  have AW1 : Hid (Below w.heap.size w w1) := AW0.out.trans (hb.mono (by have := HHB.out; omega))
  have BW1 : Hid (Below HB (w.alloc (.cells #[.int .i64 n0, .string s0, .string r0] 23)) w1) := hb
  clear hb AW0 BW0
  by_cases gl1 : left1 < 0
  · go_wp2
    go_ret
    exact ⟨rfl, AW1.out⟩
  have hsum1 := szL_sum s0 r0 1048576 (by rw [← HLF1.out]; omega) (by omega)
  rw [← HLF1.out] at hsum1
  have hbs : s0.size + r0.size ≤ 1048576 := by omega
  have HBU : Hid (s0.size + r0.size ≤ 1048576) := hbs
  clear hbs hsum1
  obtain ⟨b00, b01, b02⟩ := (BX0.out.below BW1.out (by have := HHB.out; omega)).c
  go_wp2_with fail
  clear b00 b01 b02
  refine (toStructure_any _ _ _ _).mono ?_
  rintro e w2 ⟨rfl, hb⟩
  have AW2 : Hid (Below w.heap.size w w2) := AW1.out.trans (hb.mono AW1.out.size)
  have BW2 : Hid (Below HB (w.alloc (.cells #[.int .i64 n0, .string s0, .string r0] 23)) w2) := BW1.out.trans (hb.mono (by have := BW1.out.size; have := HBS.out; omega))
  clear AW1 BW1
  clear hb
  go_wp2_with fail
  refine (HSPEC.out HBU.out _).mono ?_
  rintro e w3 ⟨rfl, hb⟩
  have AW3 : Hid (Below w.heap.size w w3) := AW2.out.trans (hb.mono AW2.out.size)
  have BW3 : Hid (Below HB (w.alloc (.cells #[.int .i64 n0, .string s0, .string r0] 23)) w3) := BW2.out.trans (hb.mono (by have := BW2.out.size; have := HBS.out; omega))
  clear AW2 BW2
  clear hb
  have HBX0 : Hid (Box 25 (w3.alloc (.cells #[.int .i64 M0n, .string M0s, .string M0r] 25)) w3.heap.size M0n M0s M0r) := Box.new _ _ _ rfl _ _ _
  obtain ⟨b00, b01, b02⟩ := ((BX0.out.below BW3.out (by have := HHB.out; omega)).below ((Below.refl w3.heap.size w3).alloc (Nat.le_refl _) (.cells #[.int .i64 M0n, .string M0s, .string M0r] 25)) (by have h1 := BW3.out.size; have h2 := HBS.out; have h3 := HHB.out; omega)).c
  go_wp2_with fail
  clear b00 b01 b02
  refine (toStructure_any _ _ _ _).mono ?_
  rintro e w4 ⟨rfl, hb⟩
  have hb0 := hb
  have hb : Below w3.heap.size w3 w4 := ((Below.refl _ _).alloc (Nat.le_refl _) _).trans (hb.mono (by simp))
  have HBX0 := Lib.hid (HBX0.out.below hb0 (by simp))
  clear hb0
  have AW4 : Hid (Below w.heap.size w w4) := AW3.out.trans (hb.mono AW3.out.size)
  have BW4 : Hid (Below HB (w.alloc (.cells #[.int .i64 n0, .string s0, .string r0] 23)) w4) := BW3.out.trans (hb.mono (by have := BW3.out.size; have := HBS.out; omega))
  clear AW3 BW3
  clear hb
  go_wp2_with fail
  refine (HIMPL.out HBU.out _).mono ?_
  rintro e w5 ⟨rfl, hb⟩
  have HBX0 := Lib.hid (HBX0.out.below hb HBX0.out.lt)
  have AW5 : Hid (Below w.heap.size w w5) := AW4.out.trans (hb.mono AW4.out.size)
  have BW5 : Hid (Below HB (w.alloc (.cells #[.int .i64 n0, .string s0, .string r0] 23)) w5) := BW4.out.trans (hb.mono (by have := BW4.out.size; have := HBS.out; omega))
  clear AW4 BW4
  clear hb
  have HBX1 : Hid (Box 25 (w5.alloc (.cells #[.int .i64 M0n, .string M0s, .string M0r] 25)) w5.heap.size M0n M0s M0r) := Box.new _ _ _ rfl _ _ _
  obtain ⟨q00, q01, q02⟩ := (HBX0.out.below ((Below.refl w5.heap.size w5).alloc (Nat.le_refl _) (.cells #[.int .i64 M0n, .string M0s, .string M0r] 25)) HBX0.out.lt).c
  obtain ⟨q10, q11, q12⟩ := HBX1.out.c
  go_wp2_with fail
  refine (eqStructure_same _ _ _ _).mono ?_
  rintro e w6 ⟨rfl, hb⟩
  have hb : Below w5.heap.size w5 w6 := ((Below.refl _ _).alloc (Nat.le_refl _) _).trans (hb.mono (by simp))
  have AW6 : Hid (Below w.heap.size w w6) := AW5.out.trans (hb.mono AW5.out.size)
  have BW6 : Hid (Below HB (w.alloc (.cells #[.int .i64 n0, .string s0, .string r0] 23)) w6) := BW5.out.trans (hb.mono (by have := BW5.out.size; have := HBS.out; omega))
  clear AW5 BW5
  clear hb
  go_wp2
  go_ret
  exact ⟨rfl, AW6.out⟩

theorem walk (n0 : Int) (s0 r0 : ByteArray) (a1 : Int) (w : World) (zn0 : (Lit.int .i64 n0).wf = true) (zs0 : s0.size ≤ maxLen) (zr0 : r0.size ≤ maxLen) (w1 : (Lit.int .i64 a1).wf = true) :
    Calls Tryd.prog 3 #[.agg #[.int .i64 n0, .string s0, .string r0], .int .i64 a1] w fun e w' => e = .returned (.bool true) ∧ Below w.heap.size w w' := by
  exact core n0 s0 r0 a1 _ _ _ _ w zs0 zr0  (copies.specE n0 s0 r0 a1 zn0 w1) (copies.implE n0 s0 r0 a1 zn0 w1)
end Go.Proofs.YtlnmebjbinmeiaaDoor.fnExactCopiesOfW
