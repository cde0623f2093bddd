/- l1In: the reference's test of bounds. -/
import Derived.Test.YtpjfpiohhgoeaaaRows
import Derived.Test.YtpjfpiohhgoeaaaLib
namespace Go.Proofs.Ytpjfpiohhgoeaaa.basic
open Go.ChangeShapes Go.WideShapes Go.ChangeAt Go.RowKit
open Go.Proofs.Ytpjfpiohhgoeaaa.lib

theorem l1In_any (n lo hi : Int) (w : World) :
    Calls Try.prog 23 #[.int .i64 n, .int .i64 lo, .int .i64 hi] w fun e w' => e = .returned (.bool (decide (lo ≤ n ∧ n ≤ hi))) ∧ w = w' := by
  by_cases h1 : lo ≤ n
  · by_cases h2 : n ≤ hi
    all_goals
      go_enter Try.func23, Try.ntmps23
      go_wp2
      go_ret
      refine ⟨?_, rfl⟩
      simp <;> omega
  · go_enter Try.func23, Try.ntmps23
    go_wp2
    go_ret
    refine ⟨?_, rfl⟩
    simp <;> omega
end Go.Proofs.Ytpjfpiohhgoeaaa.basic
