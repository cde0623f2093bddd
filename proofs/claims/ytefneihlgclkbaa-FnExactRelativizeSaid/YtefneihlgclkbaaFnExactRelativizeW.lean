/- FnExactRelativize: the walk over the contracts. Printed by strgen.py of this work. -/
import Derived.Test.YtefneihlgclkbaaFmRl
import Derived.Test.YtefneihlgclkbaaRow
namespace Go.Proofs.Ytefneihlgclkbaa.fnExactRelativizeW
set_option linter.unusedVariables false
set_option linter.unusedSimpArgs false
open Go.ChangeShapes Go.WideShapes Go.ChangeAt Go.RowKit
open Go.Proofs.Ytefneihlgclkbaa.lib Go.Proofs.Ytefneihlgclkbaa.fml Go.Proofs.Ytefneihlgclkbaa.fmvs Go.Proofs.Ytefneihlgclkbaa.fmrl
theorem walk (s0 s1 : ByteArray) (w : World) (z0 : s0.size ≤ maxLen) (z1 : s1.size ≤ maxLen) :
    Calls Try.prog 5 #[.string s0, .string s1] w fun e w' => e = .returned (.bool true) ∧ Below w.heap.size w w' := by
  unfold maxLen at z0 z1
  by_cases h0 : s0.size ≤ 1048576
  · have e0 : decide ((1048576 : Int) < (s0.size : Int)) = false := by simp; omega
    have f0 : decide (1048576 < s0.size) = false := by simp; omega
    by_cases h1 : s1.size ≤ 1048576
    · have e1 : decide ((1048576 : Int) < (s1.size : Int)) = false := by simp; omega
      have f1 : decide (1048576 < s1.size) = false := by simp; omega
      have HS := Lib.hid (fun W => Relativize_any s0 s1 W h0 h1)
      have HI := Lib.hid (fun W => implRelativize_any s0 s1 W)
      obtain ⟨r0, hr0⟩ : ∃ r, r = resS (rlO s0 s1) := ⟨_, rfl⟩
      obtain ⟨r1, hr1⟩ : ∃ r, r = resB (rlO s0 s1) := ⟨_, rfl⟩
      rw [← hr0, ← hr1] at HS HI
      clear hr0 hr1 h0 h1
      go_enter Try.func5, Try.ntmps5
      go_wp2_with fail
      refine (HS.out _).mono ?_
      rintro eo w1 ⟨rfl, hb1⟩
      have HB := Lib.hid hb1
      clear hb1
      go_wp2_with fail
      refine (HI.out _).mono ?_
      rintro eo w2 ⟨rfl, hb2⟩
      have HB2 := Lib.hid (HB.out.trans (hb2.mono HB.out.size))
      clear hb2
      go_wp2
      go_ret
      exact ⟨rfl, HB2.out⟩
    · have e1 : decide ((1048576 : Int) < (s1.size : Int)) = true := by simp; omega
      have f1 : decide (1048576 < s1.size) = true := by simp; omega
      clear h0 h1
      go_enter Try.func5, Try.ntmps5
      go_wp2
      go_ret
      exact ⟨rfl, Below.refl _ _⟩
  · have e0 : decide ((1048576 : Int) < (s0.size : Int)) = true := by simp; omega
    have f0 : decide (1048576 < s0.size) = true := by simp; omega
    clear h0
    go_enter Try.func5, Try.ntmps5
    go_wp2
    go_ret
    exact ⟨rfl, Below.refl _ _⟩
end Go.Proofs.Ytefneihlgclkbaa.fnExactRelativizeW
