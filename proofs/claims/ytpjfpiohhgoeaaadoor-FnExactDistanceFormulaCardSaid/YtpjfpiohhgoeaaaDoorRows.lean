/-
  NARROWER THAN 'FOR EVERY INPUT', by the rows' own cells (each row's printed sentence says how): FnExactDistanceFormula: laid · FnExactPairPlace: laid · FnExactNearOf: laid · FnExactProductOf: laid · FnExactDistanceOf: laid · FnExactPairLists: laid · FnExactDisjointSum: laid · FnExactOrderedSum: laid.
  DERIVED. THE GIVEN ROWS OF THIS SEAT. 8 by the template 'for every input the law returns true; each argument reads behind the call as it read before'; 0 by the template 'total and deterministic' (their statements: YtpjfpiohhgoeaaaDoorTotals.lean).
  GIVEN WITH THE SEED: the statements are not yours to turn. If you find one false, say at which input.
  Laid BY PROGRAM, IN A SANDBOX (cutbox-rows.mjs): the forced cells as the released guide's own fill.sh prints them over the translation be59dcc8d6b801de… (all of the seat's roots in one cut). By AI agents, Wed Nov 11 2026. No macro, syntax, notation, axiom, sorry.
-/
import Derived.Test.YtpjfpiohhgoeaaaDoorChecked
import GoSem.PinnedTables
import GoSem.Claim
import GoSem.ClaimJoined
import GoSem.ClaimMapViews
import Derived.JoinedTies
import Derived.KernelRfl
namespace Go.Proofs.YtpjfpiohhgoeaaaDoor
/- THE CELL 'sum', in the pinned program and in every row, IS THE sha256 OF THE DUMP (.gsa) THAT YtpjfpiohhgoeaaaDoorProg.lean LOADS. Nothing in Lean hashes anything: it is a label: what it is worth is what the hold of that sum in a sandbox is worth. -/
noncomputable def Tryd.pinned : Pinned := { name := "ytpjfpiohhgoeaaadoor", sum := "be59dcc8d6b801dec6f30e199304560dd7af6a0edd7356981303e66c7bd73d5b", checked := Tryd.checked }
namespace Rows
def none {H : Type} : Left H := { results := [], args := [] }

/- WHAT THE LISTED PACKAGE-LEVEL VARIABLES READ AS WHEN THE CALL BEGINS. Each datum BY PROGRAM (the guide's laid-datum.mjs) off the statement by which the dump's own 'gosem.cut.vars' lays the variable. In a bare row this is a premise. The card (YtpjfpiohhgoeaaaDoorCards.lean) ties it to the program's text. -/
def laid_unicode_utf8_acceptRanges {H : Type} : DataW H := .agg [.agg [.lit (.int .u8 128), .lit (.int .u8 191)], .agg [.lit (.int .u8 160), .lit (.int .u8 191)], .agg [.lit (.int .u8 128), .lit (.int .u8 159)], .agg [.lit (.int .u8 144), .lit (.int .u8 191)], .agg [.lit (.int .u8 128), .lit (.int .u8 143)], .agg [.lit (.int .u8 0), .lit (.int .u8 0)], .agg [.lit (.int .u8 0), .lit (.int .u8 0)], .agg [.lit (.int .u8 0), .lit (.int .u8 0)], .agg [.lit (.int .u8 0), .lit (.int .u8 0)], .agg [.lit (.int .u8 0), .lit (.int .u8 0)], .agg [.lit (.int .u8 0), .lit (.int .u8 0)], .agg [.lit (.int .u8 0), .lit (.int .u8 0)], .agg [.lit (.int .u8 0), .lit (.int .u8 0)], .agg [.lit (.int .u8 0), .lit (.int .u8 0)], .agg [.lit (.int .u8 0), .lit (.int .u8 0)], .agg [.lit (.int .u8 0), .lit (.int .u8 0)]]
/-- One of Go's own tables, pinned by name: the form's constant. -/
def laid_unicode_utf8_first : DataW Unit := Go.Pinned.utf8First

/-- 'laws.FnExactDistanceFormula': WHATEVER THE INPUT: true; the input reads as it did. -/
def fnExactDistanceFormulaSpec : ChangeSpec := { name := "fnExactDistanceFormula", fn := fun _ => fun
  | [d] => { results := [.lit (.bool true)], args := [d] }
  | _ => none }
def fnExactDistanceFormulaRow : OpenClaim := { program := "ytpjfpiohhgoeaaadoor", sum := "be59dcc8d6b801dec6f30e199304560dd7af6a0edd7356981303e66c7bd73d5b", func := "loop.example/gamesonstructures/laws.FnExactDistanceFormula", spec := "fnExactDistanceFormula", inPlace := ["internal/abi.NoEscape", "internal/bytealg.MakeNoZero"], unfollowed := true, recurses := true, named := ["unicode/utf8.first", "unicode/utf8.acceptRanges"], apart := false, laid := [("unicode/utf8.acceptRanges", laid_unicode_utf8_acceptRanges), ("unicode/utf8.first", laid_unicode_utf8_first)] }
def FnExactDistanceFormulaSaid : Prop := fnExactDistanceFormulaRow.holds Tryd.pinned (OpenSpec.ofChange fnExactDistanceFormulaSpec)

/-- ITS FALSE NEIGHBOUR: 'it returns false'. Refute it at one input. -/
def fnExactDistanceFormulaWrong : ChangeSpec := { name := "fnExactDistanceFormula", fn := fun _ => fun
  | [d] => { results := [.lit (.bool false)], args := [d] }
  | _ => none }
def FnExactDistanceFormulaWrongFalsely : Prop := fnExactDistanceFormulaRow.holds Tryd.pinned (OpenSpec.ofChange fnExactDistanceFormulaWrong)

/-- 'laws.FnExactPairPlace': WHATEVER THE INPUT: true; the input reads as it did. -/
def fnExactPairPlaceSpec : ChangeSpec := { name := "fnExactPairPlace", fn := fun _ => fun
  | [d1, d2, d3, d4] => { results := [.lit (.bool true)], args := [d1, d2, d3, d4] }
  | _ => none }
def fnExactPairPlaceRow : OpenClaim := { program := "ytpjfpiohhgoeaaadoor", sum := "be59dcc8d6b801dec6f30e199304560dd7af6a0edd7356981303e66c7bd73d5b", func := "loop.example/gamesonstructures/laws.FnExactPairPlace", spec := "fnExactPairPlace", inPlace := ["internal/bytealg.IndexByteString", "internal/bytealg.IndexString"], named := ["unicode/utf8.first", "unicode/utf8.acceptRanges", "internal/bytealg.MaxLen"], apart := false, laid := [("unicode/utf8.acceptRanges", laid_unicode_utf8_acceptRanges), ("unicode/utf8.first", laid_unicode_utf8_first)] }
def FnExactPairPlaceSaid : Prop := fnExactPairPlaceRow.holds Tryd.pinned (OpenSpec.ofChange fnExactPairPlaceSpec)

/-- ITS FALSE NEIGHBOUR: 'it returns false'. Refute it at one input. -/
def fnExactPairPlaceWrong : ChangeSpec := { name := "fnExactPairPlace", fn := fun _ => fun
  | [d1, d2, d3, d4] => { results := [.lit (.bool false)], args := [d1, d2, d3, d4] }
  | _ => none }
def FnExactPairPlaceWrongFalsely : Prop := fnExactPairPlaceRow.holds Tryd.pinned (OpenSpec.ofChange fnExactPairPlaceWrong)

/-- 'laws.FnExactNearOf': WHATEVER THE INPUT: true; the input reads as it did. -/
def fnExactNearOfSpec : ChangeSpec := { name := "fnExactNearOf", fn := fun _ => fun
  | [d1, d2] => { results := [.lit (.bool true)], args := [d1, d2] }
  | _ => none }
def fnExactNearOfRow : OpenClaim := { program := "ytpjfpiohhgoeaaadoor", sum := "be59dcc8d6b801dec6f30e199304560dd7af6a0edd7356981303e66c7bd73d5b", func := "loop.example/gamesonstructures/laws.FnExactNearOf", spec := "fnExactNearOf", inPlace := ["internal/bytealg.IndexByteString", "internal/bytealg.IndexString"], named := ["unicode/utf8.first", "unicode/utf8.acceptRanges", "internal/bytealg.MaxLen"], apart := false, laid := [("unicode/utf8.acceptRanges", laid_unicode_utf8_acceptRanges), ("unicode/utf8.first", laid_unicode_utf8_first)] }
def FnExactNearOfSaid : Prop := fnExactNearOfRow.holds Tryd.pinned (OpenSpec.ofChange fnExactNearOfSpec)

/-- ITS FALSE NEIGHBOUR: 'it returns false'. Refute it at one input. -/
def fnExactNearOfWrong : ChangeSpec := { name := "fnExactNearOf", fn := fun _ => fun
  | [d1, d2] => { results := [.lit (.bool false)], args := [d1, d2] }
  | _ => none }
def FnExactNearOfWrongFalsely : Prop := fnExactNearOfRow.holds Tryd.pinned (OpenSpec.ofChange fnExactNearOfWrong)

/-- 'laws.FnExactProductOf': WHATEVER THE INPUT: true; the input reads as it did. -/
def fnExactProductOfSpec : ChangeSpec := { name := "fnExactProductOf", fn := fun _ => fun
  | [d1, d2] => { results := [.lit (.bool true)], args := [d1, d2] }
  | _ => none }
def fnExactProductOfRow : OpenClaim := { program := "ytpjfpiohhgoeaaadoor", sum := "be59dcc8d6b801dec6f30e199304560dd7af6a0edd7356981303e66c7bd73d5b", func := "loop.example/gamesonstructures/laws.FnExactProductOf", spec := "fnExactProductOf", inPlace := ["internal/bytealg.IndexByteString", "internal/bytealg.IndexString"], unfollowed := true, recurses := true, named := ["unicode/utf8.first", "unicode/utf8.acceptRanges", "internal/bytealg.MaxLen"], apart := false, laid := [("unicode/utf8.acceptRanges", laid_unicode_utf8_acceptRanges), ("unicode/utf8.first", laid_unicode_utf8_first)] }
def FnExactProductOfSaid : Prop := fnExactProductOfRow.holds Tryd.pinned (OpenSpec.ofChange fnExactProductOfSpec)

/-- ITS FALSE NEIGHBOUR: 'it returns false'. Refute it at one input. -/
def fnExactProductOfWrong : ChangeSpec := { name := "fnExactProductOf", fn := fun _ => fun
  | [d1, d2] => { results := [.lit (.bool false)], args := [d1, d2] }
  | _ => none }
def FnExactProductOfWrongFalsely : Prop := fnExactProductOfRow.holds Tryd.pinned (OpenSpec.ofChange fnExactProductOfWrong)

/-- 'laws.FnExactDistanceOf': WHATEVER THE INPUT: true; the input reads as it did. -/
def fnExactDistanceOfSpec : ChangeSpec := { name := "fnExactDistanceOf", fn := fun _ => fun
  | [d1, d2, d3] => { results := [.lit (.bool true)], args := [d1, d2, d3] }
  | _ => none }
def fnExactDistanceOfRow : OpenClaim := { program := "ytpjfpiohhgoeaaadoor", sum := "be59dcc8d6b801dec6f30e199304560dd7af6a0edd7356981303e66c7bd73d5b", func := "loop.example/gamesonstructures/laws.FnExactDistanceOf", spec := "fnExactDistanceOf", inPlace := ["internal/bytealg.IndexByteString", "internal/bytealg.IndexString"], named := ["unicode/utf8.first", "unicode/utf8.acceptRanges", "internal/bytealg.MaxLen"], apart := false, laid := [("unicode/utf8.acceptRanges", laid_unicode_utf8_acceptRanges), ("unicode/utf8.first", laid_unicode_utf8_first)] }
def FnExactDistanceOfSaid : Prop := fnExactDistanceOfRow.holds Tryd.pinned (OpenSpec.ofChange fnExactDistanceOfSpec)

/-- ITS FALSE NEIGHBOUR: 'it returns false'. Refute it at one input. -/
def fnExactDistanceOfWrong : ChangeSpec := { name := "fnExactDistanceOf", fn := fun _ => fun
  | [d1, d2, d3] => { results := [.lit (.bool false)], args := [d1, d2, d3] }
  | _ => none }
def FnExactDistanceOfWrongFalsely : Prop := fnExactDistanceOfRow.holds Tryd.pinned (OpenSpec.ofChange fnExactDistanceOfWrong)

/-- 'laws.FnExactPairLists': WHATEVER THE INPUT: true; the input reads as it did. -/
def fnExactPairListsSpec : ChangeSpec := { name := "fnExactPairLists", fn := fun _ => fun
  | [d1, d2, d3, d4] => { results := [.lit (.bool true)], args := [d1, d2, d3, d4] }
  | _ => none }
def fnExactPairListsRow : OpenClaim := { program := "ytpjfpiohhgoeaaadoor", sum := "be59dcc8d6b801dec6f30e199304560dd7af6a0edd7356981303e66c7bd73d5b", func := "loop.example/gamesonstructures/laws.FnExactPairLists", spec := "fnExactPairLists", inPlace := ["internal/bytealg.IndexByteString", "internal/bytealg.IndexString"], unfollowed := true, recurses := true, named := ["unicode/utf8.first", "unicode/utf8.acceptRanges", "internal/bytealg.MaxLen"], apart := false, laid := [("unicode/utf8.acceptRanges", laid_unicode_utf8_acceptRanges), ("unicode/utf8.first", laid_unicode_utf8_first)] }
def FnExactPairListsSaid : Prop := fnExactPairListsRow.holds Tryd.pinned (OpenSpec.ofChange fnExactPairListsSpec)

/-- ITS FALSE NEIGHBOUR: 'it returns false'. Refute it at one input. -/
def fnExactPairListsWrong : ChangeSpec := { name := "fnExactPairLists", fn := fun _ => fun
  | [d1, d2, d3, d4] => { results := [.lit (.bool false)], args := [d1, d2, d3, d4] }
  | _ => none }
def FnExactPairListsWrongFalsely : Prop := fnExactPairListsRow.holds Tryd.pinned (OpenSpec.ofChange fnExactPairListsWrong)

/-- 'laws.FnExactDisjointSum': WHATEVER THE INPUT: true; the input reads as it did. -/
def fnExactDisjointSumSpec : ChangeSpec := { name := "fnExactDisjointSum", fn := fun _ => fun
  | [d1, d2] => { results := [.lit (.bool true)], args := [d1, d2] }
  | _ => none }
def fnExactDisjointSumRow : OpenClaim := { program := "ytpjfpiohhgoeaaadoor", sum := "be59dcc8d6b801dec6f30e199304560dd7af6a0edd7356981303e66c7bd73d5b", func := "loop.example/gamesonstructures/laws.FnExactDisjointSum", spec := "fnExactDisjointSum", inPlace := ["internal/bytealg.IndexByteString", "internal/bytealg.IndexString"], unfollowed := true, recurses := true, named := ["unicode/utf8.first", "unicode/utf8.acceptRanges", "internal/bytealg.MaxLen"], apart := false, laid := [("unicode/utf8.acceptRanges", laid_unicode_utf8_acceptRanges), ("unicode/utf8.first", laid_unicode_utf8_first)] }
def FnExactDisjointSumSaid : Prop := fnExactDisjointSumRow.holds Tryd.pinned (OpenSpec.ofChange fnExactDisjointSumSpec)

/-- ITS FALSE NEIGHBOUR: 'it returns false'. Refute it at one input. -/
def fnExactDisjointSumWrong : ChangeSpec := { name := "fnExactDisjointSum", fn := fun _ => fun
  | [d1, d2] => { results := [.lit (.bool false)], args := [d1, d2] }
  | _ => none }
def FnExactDisjointSumWrongFalsely : Prop := fnExactDisjointSumRow.holds Tryd.pinned (OpenSpec.ofChange fnExactDisjointSumWrong)

/-- 'laws.FnExactOrderedSum': WHATEVER THE INPUT: true; the input reads as it did. -/
def fnExactOrderedSumSpec : ChangeSpec := { name := "fnExactOrderedSum", fn := fun _ => fun
  | [d1, d2] => { results := [.lit (.bool true)], args := [d1, d2] }
  | _ => none }
def fnExactOrderedSumRow : OpenClaim := { program := "ytpjfpiohhgoeaaadoor", sum := "be59dcc8d6b801dec6f30e199304560dd7af6a0edd7356981303e66c7bd73d5b", func := "loop.example/gamesonstructures/laws.FnExactOrderedSum", spec := "fnExactOrderedSum", inPlace := ["internal/bytealg.IndexByteString", "internal/bytealg.IndexString"], unfollowed := true, recurses := true, named := ["unicode/utf8.first", "unicode/utf8.acceptRanges", "internal/bytealg.MaxLen"], apart := false, laid := [("unicode/utf8.acceptRanges", laid_unicode_utf8_acceptRanges), ("unicode/utf8.first", laid_unicode_utf8_first)] }
def FnExactOrderedSumSaid : Prop := fnExactOrderedSumRow.holds Tryd.pinned (OpenSpec.ofChange fnExactOrderedSumSpec)

/-- ITS FALSE NEIGHBOUR: 'it returns false'. Refute it at one input. -/
def fnExactOrderedSumWrong : ChangeSpec := { name := "fnExactOrderedSum", fn := fun _ => fun
  | [d1, d2] => { results := [.lit (.bool false)], args := [d1, d2] }
  | _ => none }
def FnExactOrderedSumWrongFalsely : Prop := fnExactOrderedSumRow.holds Tryd.pinned (OpenSpec.ofChange fnExactOrderedSumWrong)

/- THE SECOND FORM. 'bulk': how many values and letters a reading holds, each counted each time it is reached (what is shared counts as often as it is met; a slice's spare places count too). A statement '..UptoSaid' is the law's where the arguments, and the package variables that the reading takes, are together of bulk at most 1048576: NARROWER than '..Said'. Prove '..Said' where nothing that the law and all that it calls make is longer than what came in: it says more and counts as full. Else prove '..UptoSaid'. A law counts once. -/
mutual
def uptoBulk {H : Type} : DataW H → Nat
  | .lit (.string bytes) => bytes.length + 1
  | .lit _ => 1
  | .nil => 1
  | .ptr d => uptoBulk d + 1
  | .slice elems spare => uptoBulkAll elems + uptoBulkAll spare + 1
  | .agg parts => uptoBulkAll parts + 1
  | .iface _ d => uptoBulk d + 1
  | .map entries => uptoBulkEntries entries + 1
  | .held _ => 1
def uptoBulkAll {H : Type} : List (DataW H) → Nat
  | [] => 0
  | d :: r => uptoBulk d + uptoBulkAll r
def uptoBulkEntries {H : Type} : List (Lit × DataW H) → Nat
  | [] => 0
  | x :: r => uptoBulkEntry x + uptoBulkEntries r
def uptoBulkEntry {H : Type} : Lit × DataW H → Nat
  | (.string bytes, d) => bytes.length + uptoBulk d + 1
  | (_, d) => uptoBulk d + 1
 end
def uptoSmall : (H : Type) → List (DataW H) → Bool := fun _ ds => decide (uptoBulkAll ds ≤ 1048576)
def OpenSpec.upto (s : _root_.Go.ChangeSpec) : _root_.Go.OpenSpec := { _root_.Go.OpenSpec.ofChange s with cond := some uptoSmall }

/-- 'laws.FnExactDistanceFormula', WHERE WHAT IT READS IS OF BULK AT MOST 1048576: true; the input reads as it did. -/
def fnExactDistanceFormulaUptoRow : OpenClaim := { program := "ytpjfpiohhgoeaaadoor", sum := "be59dcc8d6b801dec6f30e199304560dd7af6a0edd7356981303e66c7bd73d5b", func := "loop.example/gamesonstructures/laws.FnExactDistanceFormula", spec := "fnExactDistanceFormula", inPlace := ["internal/abi.NoEscape", "internal/bytealg.MakeNoZero"], unfollowed := true, recurses := true, named := ["unicode/utf8.first", "unicode/utf8.acceptRanges"], apart := false, laid := [("unicode/utf8.acceptRanges", laid_unicode_utf8_acceptRanges), ("unicode/utf8.first", laid_unicode_utf8_first)], narrowed := true }
def FnExactDistanceFormulaUptoSaid : Prop := fnExactDistanceFormulaUptoRow.holds Tryd.pinned (OpenSpec.upto fnExactDistanceFormulaSpec)

/-- 'laws.FnExactPairPlace', WHERE WHAT IT READS IS OF BULK AT MOST 1048576: true; the input reads as it did. -/
def fnExactPairPlaceUptoRow : OpenClaim := { program := "ytpjfpiohhgoeaaadoor", sum := "be59dcc8d6b801dec6f30e199304560dd7af6a0edd7356981303e66c7bd73d5b", func := "loop.example/gamesonstructures/laws.FnExactPairPlace", spec := "fnExactPairPlace", inPlace := ["internal/bytealg.IndexByteString", "internal/bytealg.IndexString"], named := ["unicode/utf8.first", "unicode/utf8.acceptRanges", "internal/bytealg.MaxLen"], apart := false, laid := [("unicode/utf8.acceptRanges", laid_unicode_utf8_acceptRanges), ("unicode/utf8.first", laid_unicode_utf8_first)], narrowed := true }
def FnExactPairPlaceUptoSaid : Prop := fnExactPairPlaceUptoRow.holds Tryd.pinned (OpenSpec.upto fnExactPairPlaceSpec)

/-- 'laws.FnExactNearOf', WHERE WHAT IT READS IS OF BULK AT MOST 1048576: true; the input reads as it did. -/
def fnExactNearOfUptoRow : OpenClaim := { program := "ytpjfpiohhgoeaaadoor", sum := "be59dcc8d6b801dec6f30e199304560dd7af6a0edd7356981303e66c7bd73d5b", func := "loop.example/gamesonstructures/laws.FnExactNearOf", spec := "fnExactNearOf", inPlace := ["internal/bytealg.IndexByteString", "internal/bytealg.IndexString"], named := ["unicode/utf8.first", "unicode/utf8.acceptRanges", "internal/bytealg.MaxLen"], apart := false, laid := [("unicode/utf8.acceptRanges", laid_unicode_utf8_acceptRanges), ("unicode/utf8.first", laid_unicode_utf8_first)], narrowed := true }
def FnExactNearOfUptoSaid : Prop := fnExactNearOfUptoRow.holds Tryd.pinned (OpenSpec.upto fnExactNearOfSpec)

/-- 'laws.FnExactProductOf', WHERE WHAT IT READS IS OF BULK AT MOST 1048576: true; the input reads as it did. -/
def fnExactProductOfUptoRow : OpenClaim := { program := "ytpjfpiohhgoeaaadoor", sum := "be59dcc8d6b801dec6f30e199304560dd7af6a0edd7356981303e66c7bd73d5b", func := "loop.example/gamesonstructures/laws.FnExactProductOf", spec := "fnExactProductOf", inPlace := ["internal/bytealg.IndexByteString", "internal/bytealg.IndexString"], unfollowed := true, recurses := true, named := ["unicode/utf8.first", "unicode/utf8.acceptRanges", "internal/bytealg.MaxLen"], apart := false, laid := [("unicode/utf8.acceptRanges", laid_unicode_utf8_acceptRanges), ("unicode/utf8.first", laid_unicode_utf8_first)], narrowed := true }
def FnExactProductOfUptoSaid : Prop := fnExactProductOfUptoRow.holds Tryd.pinned (OpenSpec.upto fnExactProductOfSpec)

/-- 'laws.FnExactDistanceOf', WHERE WHAT IT READS IS OF BULK AT MOST 1048576: true; the input reads as it did. -/
def fnExactDistanceOfUptoRow : OpenClaim := { program := "ytpjfpiohhgoeaaadoor", sum := "be59dcc8d6b801dec6f30e199304560dd7af6a0edd7356981303e66c7bd73d5b", func := "loop.example/gamesonstructures/laws.FnExactDistanceOf", spec := "fnExactDistanceOf", inPlace := ["internal/bytealg.IndexByteString", "internal/bytealg.IndexString"], named := ["unicode/utf8.first", "unicode/utf8.acceptRanges", "internal/bytealg.MaxLen"], apart := false, laid := [("unicode/utf8.acceptRanges", laid_unicode_utf8_acceptRanges), ("unicode/utf8.first", laid_unicode_utf8_first)], narrowed := true }
def FnExactDistanceOfUptoSaid : Prop := fnExactDistanceOfUptoRow.holds Tryd.pinned (OpenSpec.upto fnExactDistanceOfSpec)

/-- 'laws.FnExactPairLists', WHERE WHAT IT READS IS OF BULK AT MOST 1048576: true; the input reads as it did. -/
def fnExactPairListsUptoRow : OpenClaim := { program := "ytpjfpiohhgoeaaadoor", sum := "be59dcc8d6b801dec6f30e199304560dd7af6a0edd7356981303e66c7bd73d5b", func := "loop.example/gamesonstructures/laws.FnExactPairLists", spec := "fnExactPairLists", inPlace := ["internal/bytealg.IndexByteString", "internal/bytealg.IndexString"], unfollowed := true, recurses := true, named := ["unicode/utf8.first", "unicode/utf8.acceptRanges", "internal/bytealg.MaxLen"], apart := false, laid := [("unicode/utf8.acceptRanges", laid_unicode_utf8_acceptRanges), ("unicode/utf8.first", laid_unicode_utf8_first)], narrowed := true }
def FnExactPairListsUptoSaid : Prop := fnExactPairListsUptoRow.holds Tryd.pinned (OpenSpec.upto fnExactPairListsSpec)

/-- 'laws.FnExactDisjointSum', WHERE WHAT IT READS IS OF BULK AT MOST 1048576: true; the input reads as it did. -/
def fnExactDisjointSumUptoRow : OpenClaim := { program := "ytpjfpiohhgoeaaadoor", sum := "be59dcc8d6b801dec6f30e199304560dd7af6a0edd7356981303e66c7bd73d5b", func := "loop.example/gamesonstructures/laws.FnExactDisjointSum", spec := "fnExactDisjointSum", inPlace := ["internal/bytealg.IndexByteString", "internal/bytealg.IndexString"], unfollowed := true, recurses := true, named := ["unicode/utf8.first", "unicode/utf8.acceptRanges", "internal/bytealg.MaxLen"], apart := false, laid := [("unicode/utf8.acceptRanges", laid_unicode_utf8_acceptRanges), ("unicode/utf8.first", laid_unicode_utf8_first)], narrowed := true }
def FnExactDisjointSumUptoSaid : Prop := fnExactDisjointSumUptoRow.holds Tryd.pinned (OpenSpec.upto fnExactDisjointSumSpec)

/-- 'laws.FnExactOrderedSum', WHERE WHAT IT READS IS OF BULK AT MOST 1048576: true; the input reads as it did. -/
def fnExactOrderedSumUptoRow : OpenClaim := { program := "ytpjfpiohhgoeaaadoor", sum := "be59dcc8d6b801dec6f30e199304560dd7af6a0edd7356981303e66c7bd73d5b", func := "loop.example/gamesonstructures/laws.FnExactOrderedSum", spec := "fnExactOrderedSum", inPlace := ["internal/bytealg.IndexByteString", "internal/bytealg.IndexString"], unfollowed := true, recurses := true, named := ["unicode/utf8.first", "unicode/utf8.acceptRanges", "internal/bytealg.MaxLen"], apart := false, laid := [("unicode/utf8.acceptRanges", laid_unicode_utf8_acceptRanges), ("unicode/utf8.first", laid_unicode_utf8_first)], narrowed := true }
def FnExactOrderedSumUptoSaid : Prop := fnExactOrderedSumUptoRow.holds Tryd.pinned (OpenSpec.upto fnExactOrderedSumSpec)

end Rows
end Go.Proofs.YtpjfpiohhgoeaaaDoor
