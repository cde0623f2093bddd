/- FnExactDistanceFormula: the walk over the contracts. -/
import Derived.Test.YtpjfpiohhgoeaaaDoorDfI
import Derived.Test.YtpjfpiohhgoeaaaDoorRow
namespace Go.Proofs.YtpjfpiohhgoeaaaDoor.fnExactDistanceFormulaW
set_option linter.unusedVariables false
set_option linter.unusedSimpArgs false
open Go.ChangeShapes Go.WideShapes Go.ChangeAt Go.RowKit
open Go.Proofs.YtpjfpiohhgoeaaaDoor.lib Go.Proofs.YtpjfpiohhgoeaaaDoor.df
theorem walk (a0 : Int) (w : World) (w0 : (Lit.int .i64 a0).wf = true) (hT : Tabs w) :
    Calls Tryd.prog 3 #[.int .i64 a0] w fun e w' => e = .returned (.bool true) ∧ Below w.heap.size w w' := by
  have HT := Lib.hid hT
  clear hT w0
  go_enter Tryd.func3, Tryd.ntmps3
  go_wp2_with fail
  refine (specDf_any a0 _).mono ?_
  rintro e w1 ⟨rfl, rfl⟩
  go_wp2_with fail
  refine (implDf_any a0 _ HT.out).mono ?_
  rintro e w1 ⟨rfl, hb⟩
  have HB := Lib.hid hb
  clear hb
  go_wp2
  go_ret
  exact ⟨rfl, HB.out⟩
end Go.Proofs.YtpjfpiohhgoeaaaDoor.fnExactDistanceFormulaW
