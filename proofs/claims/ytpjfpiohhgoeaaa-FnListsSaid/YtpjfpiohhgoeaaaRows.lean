/-
  No cell of these rows narrows 'for every input' (looked for: loops, veiled, ifaces, maps, wideKeys, modest, calm, conditions, laid).
  DERIVED. THE GIVEN ROWS OF THIS SEAT. 4 by the template 'for every input the law returns true; each argument reads behind the call as it read before'; 0 by the template 'total and deterministic' (their statements: YtpjfpiohhgoeaaaTotals.lean).
  GIVEN WITH THE SEED: the statements are not yours to turn. If you find one false, say at which input.
  Laid BY PROGRAM, IN A SANDBOX (cutbox-rows.mjs): the forced cells as the released guide's own fill.sh prints them over the translation 807e790f1cd1f23b… (all of the seat's roots in one cut). By AI agents, Wed Nov 11 2026. No macro, syntax, notation, axiom, sorry.
-/
import Derived.Test.YtpjfpiohhgoeaaaChecked
import GoSem.Claim
import GoSem.ClaimJoined
import GoSem.ClaimMapViews
import Derived.JoinedTies
import Derived.KernelRfl
namespace Go.Proofs.Ytpjfpiohhgoeaaa
/- THE CELL 'sum', in the pinned program and in every row, IS THE sha256 OF THE DUMP (.gsa) THAT YtpjfpiohhgoeaaaProg.lean LOADS. Nothing in Lean hashes anything: it is a label: what it is worth is what the hold of that sum in a sandbox is worth. -/
noncomputable def Try.pinned : Pinned := { name := "ytpjfpiohhgoeaaa", sum := "807e790f1cd1f23b7a241d459373b3a80d3eca87ea73a772bd83c63323e25ed2", checked := Try.checked }
namespace Rows
def none {H : Type} : Left H := { results := [], args := [] }

/-- 'laws.FnExactRadiusFor': WHATEVER THE INPUT: true; the input reads as it did. -/
def fnExactRadiusForSpec : ChangeSpec := { name := "fnExactRadiusFor", fn := fun _ => fun
  | [d] => { results := [.lit (.bool true)], args := [d] }
  | _ => none }
def fnExactRadiusForRow : OpenClaim := { program := "ytpjfpiohhgoeaaa", sum := "807e790f1cd1f23b7a241d459373b3a80d3eca87ea73a772bd83c63323e25ed2", func := "loop.example/gamesonstructures/laws.FnExactRadiusFor", spec := "fnExactRadiusFor", apart := false }
def FnExactRadiusForSaid : Prop := fnExactRadiusForRow.holds Try.pinned (OpenSpec.ofChange fnExactRadiusForSpec)

/-- ITS FALSE NEIGHBOUR: 'it returns false'. Refute it at one input. -/
def fnExactRadiusForWrong : ChangeSpec := { name := "fnExactRadiusFor", fn := fun _ => fun
  | [d] => { results := [.lit (.bool false)], args := [d] }
  | _ => none }
def FnExactRadiusForWrongFalsely : Prop := fnExactRadiusForRow.holds Try.pinned (OpenSpec.ofChange fnExactRadiusForWrong)

/-- 'laws.FnExactJoinLists': WHATEVER THE INPUT: true; the input reads as it did. -/
def fnExactJoinListsSpec : ChangeSpec := { name := "fnExactJoinLists", fn := fun _ => fun
  | [d1, d2, d3] => { results := [.lit (.bool true)], args := [d1, d2, d3] }
  | _ => none }
def fnExactJoinListsRow : OpenClaim := { program := "ytpjfpiohhgoeaaa", sum := "807e790f1cd1f23b7a241d459373b3a80d3eca87ea73a772bd83c63323e25ed2", func := "loop.example/gamesonstructures/laws.FnExactJoinLists", spec := "fnExactJoinLists", apart := false }
def FnExactJoinListsSaid : Prop := fnExactJoinListsRow.holds Try.pinned (OpenSpec.ofChange fnExactJoinListsSpec)

/-- ITS FALSE NEIGHBOUR: 'it returns false'. Refute it at one input. -/
def fnExactJoinListsWrong : ChangeSpec := { name := "fnExactJoinLists", fn := fun _ => fun
  | [d1, d2, d3] => { results := [.lit (.bool false)], args := [d1, d2, d3] }
  | _ => none }
def FnExactJoinListsWrongFalsely : Prop := fnExactJoinListsRow.holds Try.pinned (OpenSpec.ofChange fnExactJoinListsWrong)

/-- 'laws.FnExactSplitList': WHATEVER THE INPUT: true; the input reads as it did. -/
def fnExactSplitListSpec : ChangeSpec := { name := "fnExactSplitList", fn := fun _ => fun
  | [d1, d2] => { results := [.lit (.bool true)], args := [d1, d2] }
  | _ => none }
def fnExactSplitListRow : OpenClaim := { program := "ytpjfpiohhgoeaaa", sum := "807e790f1cd1f23b7a241d459373b3a80d3eca87ea73a772bd83c63323e25ed2", func := "loop.example/gamesonstructures/laws.FnExactSplitList", spec := "fnExactSplitList", apart := false }
def FnExactSplitListSaid : Prop := fnExactSplitListRow.holds Try.pinned (OpenSpec.ofChange fnExactSplitListSpec)

/-- ITS FALSE NEIGHBOUR: 'it returns false'. Refute it at one input. -/
def fnExactSplitListWrong : ChangeSpec := { name := "fnExactSplitList", fn := fun _ => fun
  | [d1, d2] => { results := [.lit (.bool false)], args := [d1, d2] }
  | _ => none }
def FnExactSplitListWrongFalsely : Prop := fnExactSplitListRow.holds Try.pinned (OpenSpec.ofChange fnExactSplitListWrong)

/-- 'laws.FnLists': WHATEVER THE INPUT: true; the input reads as it did. -/
def fnListsSpec : ChangeSpec := { name := "fnLists", fn := fun _ => fun
  | [d1, d2] => { results := [.lit (.bool true)], args := [d1, d2] }
  | _ => none }
def fnListsRow : OpenClaim := { program := "ytpjfpiohhgoeaaa", sum := "807e790f1cd1f23b7a241d459373b3a80d3eca87ea73a772bd83c63323e25ed2", func := "loop.example/gamesonstructures/laws.FnLists", spec := "fnLists", apart := false }
def FnListsSaid : Prop := fnListsRow.holds Try.pinned (OpenSpec.ofChange fnListsSpec)

/-- ITS FALSE NEIGHBOUR: 'it returns false'. Refute it at one input. -/
def fnListsWrong : ChangeSpec := { name := "fnLists", fn := fun _ => fun
  | [d1, d2] => { results := [.lit (.bool false)], args := [d1, d2] }
  | _ => none }
def FnListsWrongFalsely : Prop := fnListsRow.holds Try.pinned (OpenSpec.ofChange fnListsWrong)

/- THE SECOND FORM. 'bulk': how many values and letters a reading holds, each counted each time it is reached (what is shared counts as often as it is met; a slice's spare places count too). A statement '..UptoSaid' is the law's where the arguments, and the package variables that the reading takes, are together of bulk at most 1048576: NARROWER than '..Said'. Prove '..Said' where nothing that the law and all that it calls make is longer than what came in: it says more and counts as full. Else prove '..UptoSaid'. A law counts once. -/
mutual
def uptoBulk {H : Type} : DataW H → Nat
  | .lit (.string bytes) => bytes.length + 1
  | .lit _ => 1
  | .nil => 1
  | .ptr d => uptoBulk d + 1
  | .slice elems spare => uptoBulkAll elems + uptoBulkAll spare + 1
  | .agg parts => uptoBulkAll parts + 1
  | .iface _ d => uptoBulk d + 1
  | .map entries => uptoBulkEntries entries + 1
  | .held _ => 1
def uptoBulkAll {H : Type} : List (DataW H) → Nat
  | [] => 0
  | d :: r => uptoBulk d + uptoBulkAll r
def uptoBulkEntries {H : Type} : List (Lit × DataW H) → Nat
  | [] => 0
  | x :: r => uptoBulkEntry x + uptoBulkEntries r
def uptoBulkEntry {H : Type} : Lit × DataW H → Nat
  | (.string bytes, d) => bytes.length + uptoBulk d + 1
  | (_, d) => uptoBulk d + 1
 end
def uptoSmall : (H : Type) → List (DataW H) → Bool := fun _ ds => decide (uptoBulkAll ds ≤ 1048576)
def OpenSpec.upto (s : _root_.Go.ChangeSpec) : _root_.Go.OpenSpec := { _root_.Go.OpenSpec.ofChange s with cond := some uptoSmall }

/-- 'laws.FnExactRadiusFor', WHERE WHAT IT READS IS OF BULK AT MOST 1048576: true; the input reads as it did. -/
def fnExactRadiusForUptoRow : OpenClaim := { program := "ytpjfpiohhgoeaaa", sum := "807e790f1cd1f23b7a241d459373b3a80d3eca87ea73a772bd83c63323e25ed2", func := "loop.example/gamesonstructures/laws.FnExactRadiusFor", spec := "fnExactRadiusFor", apart := false, narrowed := true }
def FnExactRadiusForUptoSaid : Prop := fnExactRadiusForUptoRow.holds Try.pinned (OpenSpec.upto fnExactRadiusForSpec)

/-- 'laws.FnExactJoinLists', WHERE WHAT IT READS IS OF BULK AT MOST 1048576: true; the input reads as it did. -/
def fnExactJoinListsUptoRow : OpenClaim := { program := "ytpjfpiohhgoeaaa", sum := "807e790f1cd1f23b7a241d459373b3a80d3eca87ea73a772bd83c63323e25ed2", func := "loop.example/gamesonstructures/laws.FnExactJoinLists", spec := "fnExactJoinLists", apart := false, narrowed := true }
def FnExactJoinListsUptoSaid : Prop := fnExactJoinListsUptoRow.holds Try.pinned (OpenSpec.upto fnExactJoinListsSpec)

/-- 'laws.FnExactSplitList', WHERE WHAT IT READS IS OF BULK AT MOST 1048576: true; the input reads as it did. -/
def fnExactSplitListUptoRow : OpenClaim := { program := "ytpjfpiohhgoeaaa", sum := "807e790f1cd1f23b7a241d459373b3a80d3eca87ea73a772bd83c63323e25ed2", func := "loop.example/gamesonstructures/laws.FnExactSplitList", spec := "fnExactSplitList", apart := false, narrowed := true }
def FnExactSplitListUptoSaid : Prop := fnExactSplitListUptoRow.holds Try.pinned (OpenSpec.upto fnExactSplitListSpec)

/-- 'laws.FnLists', WHERE WHAT IT READS IS OF BULK AT MOST 1048576: true; the input reads as it did. -/
def fnListsUptoRow : OpenClaim := { program := "ytpjfpiohhgoeaaa", sum := "807e790f1cd1f23b7a241d459373b3a80d3eca87ea73a772bd83c63323e25ed2", func := "loop.example/gamesonstructures/laws.FnLists", spec := "fnLists", apart := false, narrowed := true }
def FnListsUptoSaid : Prop := fnListsUptoRow.holds Try.pinned (OpenSpec.upto fnListsSpec)

end Rows
end Go.Proofs.Ytpjfpiohhgoeaaa
