/- FnExactPutVars: the walk over the contracts. -/
import Derived.Test.YtefneihlgclkbaaDoorFmR
import Derived.Test.YtefneihlgclkbaaDoorRow
namespace Go.Proofs.YtefneihlgclkbaaDoor.fnExactPutVarsW
set_option linter.unusedVariables false
set_option linter.unusedSimpArgs false
open Go.ChangeShapes Go.WideShapes Go.ChangeAt Go.RowKit
open Go.Proofs.YtefneihlgclkbaaDoor.lib Go.Proofs.YtefneihlgclkbaaDoor.fml Go.Proofs.YtefneihlgclkbaaDoor.fmm Go.Proofs.YtefneihlgclkbaaDoor.fmr
theorem walk (f vars : ByteArray) (w : World) (z0 : f.size ≤ maxLen) (z1 : vars.size ≤ maxLen) :
    Calls Tryd.prog 9 #[.string f, .string vars] w fun e w' => e = .returned (.bool true) ∧ Below w.heap.size w w' := by
  unfold maxLen at z0 z1
  by_cases h0 : f.size ≤ 1048576
  · by_cases h1 : vars.size ≤ 1048576
    · have e0 : decide ((1048576 : Int) < (f.size : Int)) = false := by simp; omega
      have e1 : decide ((1048576 : Int) < (vars.size : Int)) = false := by simp; omega
      have e2 : decide (1048576 < f.size) = false := by simp; omega
      have e3 : decide (1048576 < vars.size) = false := by simp; omega
      have HS := Lib.hid (fun W => PutVars_any f vars W h0 h1)
      have HI := Lib.hid (fun W => implPutVars_any f vars W h0 h1)
      obtain ⟨s, hs⟩ : ∃ s, s = resS (pvO f vars) := ⟨_, rfl⟩
      obtain ⟨b, hb⟩ : ∃ b, b = resB (pvO f vars) := ⟨_, rfl⟩
      rw [← hs, ← hb] at HS HI
      clear hs hb h0 h1
      go_enter Tryd.func9, Tryd.ntmps9
      go_wp2_with fail
      refine (HS.out _).mono ?_
      rintro eo w1 ⟨rfl, hb1⟩
      have HB := Lib.hid hb1
      clear hb1
      go_wp2_with fail
      refine (HI.out _).mono ?_
      rintro eo w2 ⟨rfl, hb2⟩
      have HB2 := Lib.hid (HB.out.trans (hb2.mono HB.out.size))
      clear hb2
      go_wp2
      go_ret
      exact ⟨rfl, HB2.out⟩
    · have e0 : decide ((1048576 : Int) < (f.size : Int)) = false := by simp; omega
      have e1 : decide ((1048576 : Int) < (vars.size : Int)) = true := by simp; omega
      have e2 : decide (1048576 < f.size) = false := by simp; omega
      have e3 : decide (1048576 < vars.size) = true := by simp; omega
      clear h0 h1
      go_enter Tryd.func9, Tryd.ntmps9
      go_wp2
      go_ret
      exact ⟨rfl, Below.refl _ _⟩
  · have e0 : decide ((1048576 : Int) < (f.size : Int)) = true := by simp; omega
    have e2 : decide (1048576 < f.size) = true := by simp; omega
    clear h0
    go_enter Tryd.func9, Tryd.ntmps9
    go_wp2
    go_ret
    exact ⟨rfl, Below.refl _ _⟩
end Go.Proofs.YtefneihlgclkbaaDoor.fnExactPutVarsW
