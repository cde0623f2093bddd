/- a structure is equal to itself. -/
import Derived.Test.YtlnmebjbinmeiaaDoorRows
import Derived.Test.YtlnmebjbinmeiaaDoorStr
namespace Go.Proofs.YtlnmebjbinmeiaaDoor.st
set_option linter.unusedVariables false
set_option linter.unusedSimpArgs false
open Go.ChangeShapes Go.WideShapes Go.ChangeAt Go.RowKit
open Go.Proofs.YtlnmebjbinmeiaaDoor.lib

theorem eqStructure_same (n : Int) (s r : ByteArray) (w : World) :
    Calls Tryd.prog 19 #[.agg #[.int .i64 n, .string s, .string r], .agg #[.int .i64 n, .string s, .string r]] w fun e w' => e = .returned (.bool true) ∧ Below w.heap.size w w' := by
  have AW : Hid (Below w.heap.size w ((w.alloc (.cells #[.int .i64 n, .string s, .string r] 25)).alloc (.cells #[.int .i64 n, .string s, .string r] 25))) := ((Below.refl _ _).alloc (Nat.le_refl _) _).alloc (by simp) _
  go_enter Tryd.func19, Tryd.ntmps19
  go_wp2
  go_ret
  exact ⟨rfl, AW.out⟩
end Go.Proofs.YtlnmebjbinmeiaaDoor.st
