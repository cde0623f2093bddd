/- l1In: the reference's test of bounds. -/
import Derived.Test.YtefneihlgclkbaaRows
import Derived.Test.YtefneihlgclkbaaLib
namespace Go.Proofs.Ytefneihlgclkbaa.basic
set_option linter.unusedVariables false
set_option linter.unusedSimpArgs false
open Go.ChangeShapes Go.WideShapes Go.ChangeAt Go.RowKit
open Go.Proofs.Ytefneihlgclkbaa.lib

/-- n lies between lo and hi -/
def inB (n lo hi : Int) : Bool := decide (lo ≤ n ∧ n ≤ hi)
theorem inB_true {n lo hi : Int} (h1 : lo ≤ n) (h2 : n ≤ hi) : inB n lo hi = true := decide_eq_true ⟨h1, h2⟩
theorem inB_false {n lo hi : Int} (h : ¬ (lo ≤ n ∧ n ≤ hi)) : inB n lo hi = false := decide_eq_false h
end Go.Proofs.Ytefneihlgclkbaa.basic
