/- a structure is equal to itself. -/
import Derived.Test.YtpjfpiohhgoeaaaDoorRows
import Derived.Test.YtpjfpiohhgoeaaaDoorStr
namespace Go.Proofs.YtpjfpiohhgoeaaaDoor.st
open Go.ChangeShapes Go.WideShapes Go.ChangeAt Go.RowKit
open Go.Proofs.YtpjfpiohhgoeaaaDoor.lib

theorem eqStructure_same (n : Int) (s r : ByteArray) (w : World) :
    Calls Tryd.prog 24 #[.agg #[.int .i64 n, .string s, .string r], .agg #[.int .i64 n, .string s, .string r]] w fun e w' => e = .returned (.bool true) ∧ Below w.heap.size w w' := by
  have AW : Hid (Below w.heap.size w ((w.alloc (.cells #[.int .i64 n, .string s, .string r] 29)).alloc (.cells #[.int .i64 n, .string s, .string r] 29))) := ((Below.refl _ _).alloc (Nat.le_refl _) _).alloc (by simp) _
  go_enter Tryd.func24, Tryd.ntmps24
  go_wp2
  go_ret
  exact ⟨rfl, AW.out⟩
end Go.Proofs.YtpjfpiohhgoeaaaDoor.st
