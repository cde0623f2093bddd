/-
  No cell of these rows narrows 'for every input' (looked for: loops, veiled, ifaces, maps, wideKeys, modest, calm, conditions, laid).
  DERIVED. THE GIVEN ROWS OF THIS SEAT. 3 by the template 'for every input the law returns true; each argument reads behind the call as it read before'; 0 by the template 'total and deterministic' (their statements: YtefneihlgclkbaaTotals.lean).
  GIVEN WITH THE SEED: the statements are not yours to turn. If you find one false, say at which input.
  Laid BY PROGRAM, IN A SANDBOX (cutbox-rows.mjs): the forced cells as the released guide's own fill.sh prints them over the translation b5f6ab6921608099… (all of the seat's roots in one cut). By AI agents, Wed Nov 11 2026. No macro, syntax, notation, axiom, sorry.
-/
import Derived.Test.YtefneihlgclkbaaChecked
import GoSem.Claim
import GoSem.ClaimJoined
import GoSem.ClaimMapViews
import Derived.JoinedTies
import Derived.KernelRfl
namespace Go.Proofs.Ytefneihlgclkbaa
/- THE CELL 'sum', in the pinned program and in every row, IS THE sha256 OF THE DUMP (.gsa) THAT YtefneihlgclkbaaProg.lean LOADS. Nothing in Lean hashes anything: it is a label: what it is worth is what the hold of that sum in a sandbox is worth. -/
noncomputable def Try.pinned : Pinned := { name := "ytefneihlgclkbaa", sum := "b5f6ab6921608099ad835e819ac4b87b3622885ada7d5d240ceea0cb90e9c7aa", checked := Try.checked }
namespace Rows
def none {H : Type} : Left H := { results := [], args := [] }

/-- 'laws.FnExactPullBack': WHATEVER THE INPUT: true; the input reads as it did. -/
def fnExactPullBackSpec : ChangeSpec := { name := "fnExactPullBack", fn := fun _ => fun
  | [d1, d2, d3] => { results := [.lit (.bool true)], args := [d1, d2, d3] }
  | _ => none }
def fnExactPullBackRow : OpenClaim := { program := "ytefneihlgclkbaa", sum := "b5f6ab6921608099ad835e819ac4b87b3622885ada7d5d240ceea0cb90e9c7aa", func := "loop.example/gamesonstructures/laws.FnExactPullBack", spec := "fnExactPullBack", inPlace := ["internal/bytealg.IndexByteString", "internal/bytealg.IndexString"], recurses := true, named := ["internal/bytealg.MaxLen"], apart := false }
def FnExactPullBackSaid : Prop := fnExactPullBackRow.holds Try.pinned (OpenSpec.ofChange fnExactPullBackSpec)

/-- ITS FALSE NEIGHBOUR: 'it returns false'. Refute it at one input. -/
def fnExactPullBackWrong : ChangeSpec := { name := "fnExactPullBack", fn := fun _ => fun
  | [d1, d2, d3] => { results := [.lit (.bool false)], args := [d1, d2, d3] }
  | _ => none }
def FnExactPullBackWrongFalsely : Prop := fnExactPullBackRow.holds Try.pinned (OpenSpec.ofChange fnExactPullBackWrong)

/-- 'laws.FnExactComposeViews': WHATEVER THE INPUT: true; the input reads as it did. -/
def fnExactComposeViewsSpec : ChangeSpec := { name := "fnExactComposeViews", fn := fun _ => fun
  | [d1, d2, d3, d4] => { results := [.lit (.bool true)], args := [d1, d2, d3, d4] }
  | _ => none }
def fnExactComposeViewsRow : OpenClaim := { program := "ytefneihlgclkbaa", sum := "b5f6ab6921608099ad835e819ac4b87b3622885ada7d5d240ceea0cb90e9c7aa", func := "loop.example/gamesonstructures/laws.FnExactComposeViews", spec := "fnExactComposeViews", inPlace := ["internal/bytealg.IndexByteString", "internal/bytealg.IndexString"], recurses := true, named := ["internal/bytealg.MaxLen"], apart := false }
def FnExactComposeViewsSaid : Prop := fnExactComposeViewsRow.holds Try.pinned (OpenSpec.ofChange fnExactComposeViewsSpec)

/-- ITS FALSE NEIGHBOUR: 'it returns false'. Refute it at one input. -/
def fnExactComposeViewsWrong : ChangeSpec := { name := "fnExactComposeViews", fn := fun _ => fun
  | [d1, d2, d3, d4] => { results := [.lit (.bool false)], args := [d1, d2, d3, d4] }
  | _ => none }
def FnExactComposeViewsWrongFalsely : Prop := fnExactComposeViewsRow.holds Try.pinned (OpenSpec.ofChange fnExactComposeViewsWrong)

/-- 'laws.FnExactRelativize': WHATEVER THE INPUT: true; the input reads as it did. -/
def fnExactRelativizeSpec : ChangeSpec := { name := "fnExactRelativize", fn := fun _ => fun
  | [d1, d2] => { results := [.lit (.bool true)], args := [d1, d2] }
  | _ => none }
def fnExactRelativizeRow : OpenClaim := { program := "ytefneihlgclkbaa", sum := "b5f6ab6921608099ad835e819ac4b87b3622885ada7d5d240ceea0cb90e9c7aa", func := "loop.example/gamesonstructures/laws.FnExactRelativize", spec := "fnExactRelativize", inPlace := ["internal/bytealg.IndexByteString", "internal/bytealg.IndexString"], recurses := true, named := ["internal/bytealg.MaxLen"], apart := false }
def FnExactRelativizeSaid : Prop := fnExactRelativizeRow.holds Try.pinned (OpenSpec.ofChange fnExactRelativizeSpec)

/-- ITS FALSE NEIGHBOUR: 'it returns false'. Refute it at one input. -/
def fnExactRelativizeWrong : ChangeSpec := { name := "fnExactRelativize", fn := fun _ => fun
  | [d1, d2] => { results := [.lit (.bool false)], args := [d1, d2] }
  | _ => none }
def FnExactRelativizeWrongFalsely : Prop := fnExactRelativizeRow.holds Try.pinned (OpenSpec.ofChange fnExactRelativizeWrong)

/- THE SECOND FORM. 'bulk': how many values and letters a reading holds, each counted each time it is reached (what is shared counts as often as it is met; a slice's spare places count too). A statement '..UptoSaid' is the law's where the arguments, and the package variables that the reading takes, are together of bulk at most 1048576: NARROWER than '..Said'. Prove '..Said' where nothing that the law and all that it calls make is longer than what came in: it says more and counts as full. Else prove '..UptoSaid'. A law counts once. -/
mutual
def uptoBulk {H : Type} : DataW H → Nat
  | .lit (.string bytes) => bytes.length + 1
  | .lit _ => 1
  | .nil => 1
  | .ptr d => uptoBulk d + 1
  | .slice elems spare => uptoBulkAll elems + uptoBulkAll spare + 1
  | .agg parts => uptoBulkAll parts + 1
  | .iface _ d => uptoBulk d + 1
  | .map entries => uptoBulkEntries entries + 1
  | .held _ => 1
def uptoBulkAll {H : Type} : List (DataW H) → Nat
  | [] => 0
  | d :: r => uptoBulk d + uptoBulkAll r
def uptoBulkEntries {H : Type} : List (Lit × DataW H) → Nat
  | [] => 0
  | x :: r => uptoBulkEntry x + uptoBulkEntries r
def uptoBulkEntry {H : Type} : Lit × DataW H → Nat
  | (.string bytes, d) => bytes.length + uptoBulk d + 1
  | (_, d) => uptoBulk d + 1
 end
def uptoSmall : (H : Type) → List (DataW H) → Bool := fun _ ds => decide (uptoBulkAll ds ≤ 1048576)
def OpenSpec.upto (s : _root_.Go.ChangeSpec) : _root_.Go.OpenSpec := { _root_.Go.OpenSpec.ofChange s with cond := some uptoSmall }

/-- 'laws.FnExactPullBack', WHERE WHAT IT READS IS OF BULK AT MOST 1048576: true; the input reads as it did. -/
def fnExactPullBackUptoRow : OpenClaim := { program := "ytefneihlgclkbaa", sum := "b5f6ab6921608099ad835e819ac4b87b3622885ada7d5d240ceea0cb90e9c7aa", func := "loop.example/gamesonstructures/laws.FnExactPullBack", spec := "fnExactPullBack", inPlace := ["internal/bytealg.IndexByteString", "internal/bytealg.IndexString"], recurses := true, named := ["internal/bytealg.MaxLen"], apart := false, narrowed := true }
def FnExactPullBackUptoSaid : Prop := fnExactPullBackUptoRow.holds Try.pinned (OpenSpec.upto fnExactPullBackSpec)

/-- 'laws.FnExactComposeViews', WHERE WHAT IT READS IS OF BULK AT MOST 1048576: true; the input reads as it did. -/
def fnExactComposeViewsUptoRow : OpenClaim := { program := "ytefneihlgclkbaa", sum := "b5f6ab6921608099ad835e819ac4b87b3622885ada7d5d240ceea0cb90e9c7aa", func := "loop.example/gamesonstructures/laws.FnExactComposeViews", spec := "fnExactComposeViews", inPlace := ["internal/bytealg.IndexByteString", "internal/bytealg.IndexString"], recurses := true, named := ["internal/bytealg.MaxLen"], apart := false, narrowed := true }
def FnExactComposeViewsUptoSaid : Prop := fnExactComposeViewsUptoRow.holds Try.pinned (OpenSpec.upto fnExactComposeViewsSpec)

/-- 'laws.FnExactRelativize', WHERE WHAT IT READS IS OF BULK AT MOST 1048576: true; the input reads as it did. -/
def fnExactRelativizeUptoRow : OpenClaim := { program := "ytefneihlgclkbaa", sum := "b5f6ab6921608099ad835e819ac4b87b3622885ada7d5d240ceea0cb90e9c7aa", func := "loop.example/gamesonstructures/laws.FnExactRelativize", spec := "fnExactRelativize", inPlace := ["internal/bytealg.IndexByteString", "internal/bytealg.IndexString"], recurses := true, named := ["internal/bytealg.MaxLen"], apart := false, narrowed := true }
def FnExactRelativizeUptoSaid : Prop := fnExactRelativizeUptoRow.holds Try.pinned (OpenSpec.upto fnExactRelativizeSpec)

end Rows
end Go.Proofs.Ytefneihlgclkbaa
