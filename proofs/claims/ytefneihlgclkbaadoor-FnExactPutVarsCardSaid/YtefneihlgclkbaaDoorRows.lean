/-
  NARROWER THAN 'FOR EVERY INPUT', by the rows' own cells (each row's printed sentence says how): FnProductOf: laid · FnDisjointSum: laid · FnCopies: laid · FnPairLists: laid · FnSameBall: laid · FnBallClasses: laid · FnExactPutVars: laid.
  DERIVED. THE GIVEN ROWS OF THIS SEAT. 7 by the template 'for every input the law returns true; each argument reads behind the call as it read before'; 0 by the template 'total and deterministic' (their statements: YtefneihlgclkbaaDoorTotals.lean).
  GIVEN WITH THE SEED: the statements are not yours to turn. If you find one false, say at which input.
  Laid BY PROGRAM, IN A SANDBOX (cutbox-rows.mjs): the forced cells as the released guide's own fill.sh prints them over the translation 482bbf98b69d3a01… (all of the seat's roots in one cut). By AI agents, Wed Nov 11 2026. No macro, syntax, notation, axiom, sorry.
-/
import Derived.Test.YtefneihlgclkbaaDoorChecked
import GoSem.PinnedTables
import GoSem.Claim
import GoSem.ClaimJoined
import GoSem.ClaimMapViews
import Derived.JoinedTies
import Derived.KernelRfl
namespace Go.Proofs.YtefneihlgclkbaaDoor
/- THE CELL 'sum', in the pinned program and in every row, IS THE sha256 OF THE DUMP (.gsa) THAT YtefneihlgclkbaaDoorProg.lean LOADS. Nothing in Lean hashes anything: it is a label: what it is worth is what the hold of that sum in a sandbox is worth. -/
noncomputable def Tryd.pinned : Pinned := { name := "ytefneihlgclkbaadoor", sum := "482bbf98b69d3a01d43f69c0b4a3fdca86ef93e59c7cc9eba255000bd013dfbc", checked := Tryd.checked }
namespace Rows
def none {H : Type} : Left H := { results := [], args := [] }

/- WHAT THE LISTED PACKAGE-LEVEL VARIABLES READ AS WHEN THE CALL BEGINS. Each datum BY PROGRAM (the guide's laid-datum.mjs) off the statement by which the dump's own 'gosem.cut.vars' lays the variable. In a bare row this is a premise. The card (YtefneihlgclkbaaDoorCards.lean) ties it to the program's text. -/
def laid_unicode_utf8_acceptRanges {H : Type} : DataW H := .agg [.agg [.lit (.int .u8 128), .lit (.int .u8 191)], .agg [.lit (.int .u8 160), .lit (.int .u8 191)], .agg [.lit (.int .u8 128), .lit (.int .u8 159)], .agg [.lit (.int .u8 144), .lit (.int .u8 191)], .agg [.lit (.int .u8 128), .lit (.int .u8 143)], .agg [.lit (.int .u8 0), .lit (.int .u8 0)], .agg [.lit (.int .u8 0), .lit (.int .u8 0)], .agg [.lit (.int .u8 0), .lit (.int .u8 0)], .agg [.lit (.int .u8 0), .lit (.int .u8 0)], .agg [.lit (.int .u8 0), .lit (.int .u8 0)], .agg [.lit (.int .u8 0), .lit (.int .u8 0)], .agg [.lit (.int .u8 0), .lit (.int .u8 0)], .agg [.lit (.int .u8 0), .lit (.int .u8 0)], .agg [.lit (.int .u8 0), .lit (.int .u8 0)], .agg [.lit (.int .u8 0), .lit (.int .u8 0)], .agg [.lit (.int .u8 0), .lit (.int .u8 0)]]
/-- One of Go's own tables, pinned by name: the form's constant. -/
def laid_unicode_utf8_first : DataW Unit := Go.Pinned.utf8First

/-- 'laws.FnProductOf': WHATEVER THE INPUT: true; the input reads as it did. -/
def fnProductOfSpec : ChangeSpec := { name := "fnProductOf", fn := fun _ => fun
  | [d] => { results := [.lit (.bool true)], args := [d] }
  | _ => none }
def fnProductOfRow : OpenClaim := { program := "ytefneihlgclkbaadoor", sum := "482bbf98b69d3a01d43f69c0b4a3fdca86ef93e59c7cc9eba255000bd013dfbc", func := "loop.example/gamesonstructures/laws.FnProductOf", spec := "fnProductOf", inPlace := ["internal/bytealg.IndexByteString", "internal/bytealg.IndexString"], unfollowed := true, recurses := true, named := ["unicode/utf8.first", "unicode/utf8.acceptRanges", "internal/bytealg.MaxLen"], apart := false, laid := [("unicode/utf8.acceptRanges", laid_unicode_utf8_acceptRanges), ("unicode/utf8.first", laid_unicode_utf8_first)] }
def FnProductOfSaid : Prop := fnProductOfRow.holds Tryd.pinned (OpenSpec.ofChange fnProductOfSpec)

/-- ITS FALSE NEIGHBOUR: 'it returns false'. Refute it at one input. -/
def fnProductOfWrong : ChangeSpec := { name := "fnProductOf", fn := fun _ => fun
  | [d] => { results := [.lit (.bool false)], args := [d] }
  | _ => none }
def FnProductOfWrongFalsely : Prop := fnProductOfRow.holds Tryd.pinned (OpenSpec.ofChange fnProductOfWrong)

/-- 'laws.FnDisjointSum': WHATEVER THE INPUT: true; the input reads as it did. -/
def fnDisjointSumSpec : ChangeSpec := { name := "fnDisjointSum", fn := fun _ => fun
  | [d] => { results := [.lit (.bool true)], args := [d] }
  | _ => none }
def fnDisjointSumRow : OpenClaim := { program := "ytefneihlgclkbaadoor", sum := "482bbf98b69d3a01d43f69c0b4a3fdca86ef93e59c7cc9eba255000bd013dfbc", func := "loop.example/gamesonstructures/laws.FnDisjointSum", spec := "fnDisjointSum", inPlace := ["internal/bytealg.IndexByteString", "internal/bytealg.IndexString"], unfollowed := true, recurses := true, named := ["unicode/utf8.first", "unicode/utf8.acceptRanges", "internal/bytealg.MaxLen"], apart := false, laid := [("unicode/utf8.acceptRanges", laid_unicode_utf8_acceptRanges), ("unicode/utf8.first", laid_unicode_utf8_first)] }
def FnDisjointSumSaid : Prop := fnDisjointSumRow.holds Tryd.pinned (OpenSpec.ofChange fnDisjointSumSpec)

/-- ITS FALSE NEIGHBOUR: 'it returns false'. Refute it at one input. -/
def fnDisjointSumWrong : ChangeSpec := { name := "fnDisjointSum", fn := fun _ => fun
  | [d] => { results := [.lit (.bool false)], args := [d] }
  | _ => none }
def FnDisjointSumWrongFalsely : Prop := fnDisjointSumRow.holds Tryd.pinned (OpenSpec.ofChange fnDisjointSumWrong)

/-- 'laws.FnCopies': WHATEVER THE INPUT: true; the input reads as it did. -/
def fnCopiesSpec : ChangeSpec := { name := "fnCopies", fn := fun _ => fun
  | [d] => { results := [.lit (.bool true)], args := [d] }
  | _ => none }
def fnCopiesRow : OpenClaim := { program := "ytefneihlgclkbaadoor", sum := "482bbf98b69d3a01d43f69c0b4a3fdca86ef93e59c7cc9eba255000bd013dfbc", func := "loop.example/gamesonstructures/laws.FnCopies", spec := "fnCopies", inPlace := ["internal/bytealg.IndexByteString", "internal/bytealg.IndexString"], unfollowed := true, recurses := true, named := ["unicode/utf8.first", "unicode/utf8.acceptRanges", "internal/bytealg.MaxLen"], apart := false, laid := [("unicode/utf8.acceptRanges", laid_unicode_utf8_acceptRanges), ("unicode/utf8.first", laid_unicode_utf8_first)] }
def FnCopiesSaid : Prop := fnCopiesRow.holds Tryd.pinned (OpenSpec.ofChange fnCopiesSpec)

/-- ITS FALSE NEIGHBOUR: 'it returns false'. Refute it at one input. -/
def fnCopiesWrong : ChangeSpec := { name := "fnCopies", fn := fun _ => fun
  | [d] => { results := [.lit (.bool false)], args := [d] }
  | _ => none }
def FnCopiesWrongFalsely : Prop := fnCopiesRow.holds Tryd.pinned (OpenSpec.ofChange fnCopiesWrong)

/-- 'laws.FnPairLists': WHATEVER THE INPUT: true; the input reads as it did. -/
def fnPairListsSpec : ChangeSpec := { name := "fnPairLists", fn := fun _ => fun
  | [d] => { results := [.lit (.bool true)], args := [d] }
  | _ => none }
def fnPairListsRow : OpenClaim := { program := "ytefneihlgclkbaadoor", sum := "482bbf98b69d3a01d43f69c0b4a3fdca86ef93e59c7cc9eba255000bd013dfbc", func := "loop.example/gamesonstructures/laws.FnPairLists", spec := "fnPairLists", inPlace := ["internal/bytealg.IndexByteString", "internal/bytealg.IndexString"], unfollowed := true, recurses := true, named := ["unicode/utf8.first", "unicode/utf8.acceptRanges", "internal/bytealg.MaxLen"], apart := false, laid := [("unicode/utf8.acceptRanges", laid_unicode_utf8_acceptRanges), ("unicode/utf8.first", laid_unicode_utf8_first)] }
def FnPairListsSaid : Prop := fnPairListsRow.holds Tryd.pinned (OpenSpec.ofChange fnPairListsSpec)

/-- ITS FALSE NEIGHBOUR: 'it returns false'. Refute it at one input. -/
def fnPairListsWrong : ChangeSpec := { name := "fnPairLists", fn := fun _ => fun
  | [d] => { results := [.lit (.bool false)], args := [d] }
  | _ => none }
def FnPairListsWrongFalsely : Prop := fnPairListsRow.holds Tryd.pinned (OpenSpec.ofChange fnPairListsWrong)

/-- 'laws.FnSameBall': WHATEVER THE INPUT: true; the input reads as it did. -/
def fnSameBallSpec : ChangeSpec := { name := "fnSameBall", fn := fun _ => fun
  | [d] => { results := [.lit (.bool true)], args := [d] }
  | _ => none }
def fnSameBallRow : OpenClaim := { program := "ytefneihlgclkbaadoor", sum := "482bbf98b69d3a01d43f69c0b4a3fdca86ef93e59c7cc9eba255000bd013dfbc", func := "loop.example/gamesonstructures/laws.FnSameBall", spec := "fnSameBall", inPlace := ["internal/bytealg.IndexByteString", "internal/bytealg.IndexString"], unfollowed := true, recurses := true, named := ["unicode/utf8.first", "unicode/utf8.acceptRanges", "internal/bytealg.MaxLen"], apart := false, laid := [("unicode/utf8.acceptRanges", laid_unicode_utf8_acceptRanges), ("unicode/utf8.first", laid_unicode_utf8_first)] }
def FnSameBallSaid : Prop := fnSameBallRow.holds Tryd.pinned (OpenSpec.ofChange fnSameBallSpec)

/-- ITS FALSE NEIGHBOUR: 'it returns false'. Refute it at one input. -/
def fnSameBallWrong : ChangeSpec := { name := "fnSameBall", fn := fun _ => fun
  | [d] => { results := [.lit (.bool false)], args := [d] }
  | _ => none }
def FnSameBallWrongFalsely : Prop := fnSameBallRow.holds Tryd.pinned (OpenSpec.ofChange fnSameBallWrong)

/-- 'laws.FnBallClasses': WHATEVER THE INPUT: true; the input reads as it did. -/
def fnBallClassesSpec : ChangeSpec := { name := "fnBallClasses", fn := fun _ => fun
  | [d] => { results := [.lit (.bool true)], args := [d] }
  | _ => none }
def fnBallClassesRow : OpenClaim := { program := "ytefneihlgclkbaadoor", sum := "482bbf98b69d3a01d43f69c0b4a3fdca86ef93e59c7cc9eba255000bd013dfbc", func := "loop.example/gamesonstructures/laws.FnBallClasses", spec := "fnBallClasses", inPlace := ["internal/bytealg.IndexByteString", "internal/bytealg.IndexString"], unfollowed := true, recurses := true, named := ["unicode/utf8.first", "unicode/utf8.acceptRanges", "internal/bytealg.MaxLen"], apart := false, laid := [("unicode/utf8.acceptRanges", laid_unicode_utf8_acceptRanges), ("unicode/utf8.first", laid_unicode_utf8_first)] }
def FnBallClassesSaid : Prop := fnBallClassesRow.holds Tryd.pinned (OpenSpec.ofChange fnBallClassesSpec)

/-- ITS FALSE NEIGHBOUR: 'it returns false'. Refute it at one input. -/
def fnBallClassesWrong : ChangeSpec := { name := "fnBallClasses", fn := fun _ => fun
  | [d] => { results := [.lit (.bool false)], args := [d] }
  | _ => none }
def FnBallClassesWrongFalsely : Prop := fnBallClassesRow.holds Tryd.pinned (OpenSpec.ofChange fnBallClassesWrong)

/-- 'laws.FnExactPutVars': WHATEVER THE INPUT: true; the input reads as it did. -/
def fnExactPutVarsSpec : ChangeSpec := { name := "fnExactPutVars", fn := fun _ => fun
  | [d1, d2] => { results := [.lit (.bool true)], args := [d1, d2] }
  | _ => none }
def fnExactPutVarsRow : OpenClaim := { program := "ytefneihlgclkbaadoor", sum := "482bbf98b69d3a01d43f69c0b4a3fdca86ef93e59c7cc9eba255000bd013dfbc", func := "loop.example/gamesonstructures/laws.FnExactPutVars", spec := "fnExactPutVars", inPlace := ["internal/bytealg.IndexByteString", "internal/bytealg.IndexString"], recurses := true, named := ["internal/bytealg.MaxLen", "unicode/utf8.first", "unicode/utf8.acceptRanges"], apart := false, laid := [("unicode/utf8.acceptRanges", laid_unicode_utf8_acceptRanges), ("unicode/utf8.first", laid_unicode_utf8_first)] }
def FnExactPutVarsSaid : Prop := fnExactPutVarsRow.holds Tryd.pinned (OpenSpec.ofChange fnExactPutVarsSpec)

/-- ITS FALSE NEIGHBOUR: 'it returns false'. Refute it at one input. -/
def fnExactPutVarsWrong : ChangeSpec := { name := "fnExactPutVars", fn := fun _ => fun
  | [d1, d2] => { results := [.lit (.bool false)], args := [d1, d2] }
  | _ => none }
def FnExactPutVarsWrongFalsely : Prop := fnExactPutVarsRow.holds Tryd.pinned (OpenSpec.ofChange fnExactPutVarsWrong)

/- THE SECOND FORM. 'bulk': how many values and letters a reading holds, each counted each time it is reached (what is shared counts as often as it is met; a slice's spare places count too). A statement '..UptoSaid' is the law's where the arguments, and the package variables that the reading takes, are together of bulk at most 1048576: NARROWER than '..Said'. Prove '..Said' where nothing that the law and all that it calls make is longer than what came in: it says more and counts as full. Else prove '..UptoSaid'. A law counts once. -/
mutual
def uptoBulk {H : Type} : DataW H → Nat
  | .lit (.string bytes) => bytes.length + 1
  | .lit _ => 1
  | .nil => 1
  | .ptr d => uptoBulk d + 1
  | .slice elems spare => uptoBulkAll elems + uptoBulkAll spare + 1
  | .agg parts => uptoBulkAll parts + 1
  | .iface _ d => uptoBulk d + 1
  | .map entries => uptoBulkEntries entries + 1
  | .held _ => 1
def uptoBulkAll {H : Type} : List (DataW H) → Nat
  | [] => 0
  | d :: r => uptoBulk d + uptoBulkAll r
def uptoBulkEntries {H : Type} : List (Lit × DataW H) → Nat
  | [] => 0
  | x :: r => uptoBulkEntry x + uptoBulkEntries r
def uptoBulkEntry {H : Type} : Lit × DataW H → Nat
  | (.string bytes, d) => bytes.length + uptoBulk d + 1
  | (_, d) => uptoBulk d + 1
 end
def uptoSmall : (H : Type) → List (DataW H) → Bool := fun _ ds => decide (uptoBulkAll ds ≤ 1048576)
def OpenSpec.upto (s : _root_.Go.ChangeSpec) : _root_.Go.OpenSpec := { _root_.Go.OpenSpec.ofChange s with cond := some uptoSmall }

/-- 'laws.FnProductOf', WHERE WHAT IT READS IS OF BULK AT MOST 1048576: true; the input reads as it did. -/
def fnProductOfUptoRow : OpenClaim := { program := "ytefneihlgclkbaadoor", sum := "482bbf98b69d3a01d43f69c0b4a3fdca86ef93e59c7cc9eba255000bd013dfbc", func := "loop.example/gamesonstructures/laws.FnProductOf", spec := "fnProductOf", inPlace := ["internal/bytealg.IndexByteString", "internal/bytealg.IndexString"], unfollowed := true, recurses := true, named := ["unicode/utf8.first", "unicode/utf8.acceptRanges", "internal/bytealg.MaxLen"], apart := false, laid := [("unicode/utf8.acceptRanges", laid_unicode_utf8_acceptRanges), ("unicode/utf8.first", laid_unicode_utf8_first)], narrowed := true }
def FnProductOfUptoSaid : Prop := fnProductOfUptoRow.holds Tryd.pinned (OpenSpec.upto fnProductOfSpec)

/-- 'laws.FnDisjointSum', WHERE WHAT IT READS IS OF BULK AT MOST 1048576: true; the input reads as it did. -/
def fnDisjointSumUptoRow : OpenClaim := { program := "ytefneihlgclkbaadoor", sum := "482bbf98b69d3a01d43f69c0b4a3fdca86ef93e59c7cc9eba255000bd013dfbc", func := "loop.example/gamesonstructures/laws.FnDisjointSum", spec := "fnDisjointSum", inPlace := ["internal/bytealg.IndexByteString", "internal/bytealg.IndexString"], unfollowed := true, recurses := true, named := ["unicode/utf8.first", "unicode/utf8.acceptRanges", "internal/bytealg.MaxLen"], apart := false, laid := [("unicode/utf8.acceptRanges", laid_unicode_utf8_acceptRanges), ("unicode/utf8.first", laid_unicode_utf8_first)], narrowed := true }
def FnDisjointSumUptoSaid : Prop := fnDisjointSumUptoRow.holds Tryd.pinned (OpenSpec.upto fnDisjointSumSpec)

/-- 'laws.FnCopies', WHERE WHAT IT READS IS OF BULK AT MOST 1048576: true; the input reads as it did. -/
def fnCopiesUptoRow : OpenClaim := { program := "ytefneihlgclkbaadoor", sum := "482bbf98b69d3a01d43f69c0b4a3fdca86ef93e59c7cc9eba255000bd013dfbc", func := "loop.example/gamesonstructures/laws.FnCopies", spec := "fnCopies", inPlace := ["internal/bytealg.IndexByteString", "internal/bytealg.IndexString"], unfollowed := true, recurses := true, named := ["unicode/utf8.first", "unicode/utf8.acceptRanges", "internal/bytealg.MaxLen"], apart := false, laid := [("unicode/utf8.acceptRanges", laid_unicode_utf8_acceptRanges), ("unicode/utf8.first", laid_unicode_utf8_first)], narrowed := true }
def FnCopiesUptoSaid : Prop := fnCopiesUptoRow.holds Tryd.pinned (OpenSpec.upto fnCopiesSpec)

/-- 'laws.FnPairLists', WHERE WHAT IT READS IS OF BULK AT MOST 1048576: true; the input reads as it did. -/
def fnPairListsUptoRow : OpenClaim := { program := "ytefneihlgclkbaadoor", sum := "482bbf98b69d3a01d43f69c0b4a3fdca86ef93e59c7cc9eba255000bd013dfbc", func := "loop.example/gamesonstructures/laws.FnPairLists", spec := "fnPairLists", inPlace := ["internal/bytealg.IndexByteString", "internal/bytealg.IndexString"], unfollowed := true, recurses := true, named := ["unicode/utf8.first", "unicode/utf8.acceptRanges", "internal/bytealg.MaxLen"], apart := false, laid := [("unicode/utf8.acceptRanges", laid_unicode_utf8_acceptRanges), ("unicode/utf8.first", laid_unicode_utf8_first)], narrowed := true }
def FnPairListsUptoSaid : Prop := fnPairListsUptoRow.holds Tryd.pinned (OpenSpec.upto fnPairListsSpec)

/-- 'laws.FnSameBall', WHERE WHAT IT READS IS OF BULK AT MOST 1048576: true; the input reads as it did. -/
def fnSameBallUptoRow : OpenClaim := { program := "ytefneihlgclkbaadoor", sum := "482bbf98b69d3a01d43f69c0b4a3fdca86ef93e59c7cc9eba255000bd013dfbc", func := "loop.example/gamesonstructures/laws.FnSameBall", spec := "fnSameBall", inPlace := ["internal/bytealg.IndexByteString", "internal/bytealg.IndexString"], unfollowed := true, recurses := true, named := ["unicode/utf8.first", "unicode/utf8.acceptRanges", "internal/bytealg.MaxLen"], apart := false, laid := [("unicode/utf8.acceptRanges", laid_unicode_utf8_acceptRanges), ("unicode/utf8.first", laid_unicode_utf8_first)], narrowed := true }
def FnSameBallUptoSaid : Prop := fnSameBallUptoRow.holds Tryd.pinned (OpenSpec.upto fnSameBallSpec)

/-- 'laws.FnBallClasses', WHERE WHAT IT READS IS OF BULK AT MOST 1048576: true; the input reads as it did. -/
def fnBallClassesUptoRow : OpenClaim := { program := "ytefneihlgclkbaadoor", sum := "482bbf98b69d3a01d43f69c0b4a3fdca86ef93e59c7cc9eba255000bd013dfbc", func := "loop.example/gamesonstructures/laws.FnBallClasses", spec := "fnBallClasses", inPlace := ["internal/bytealg.IndexByteString", "internal/bytealg.IndexString"], unfollowed := true, recurses := true, named := ["unicode/utf8.first", "unicode/utf8.acceptRanges", "internal/bytealg.MaxLen"], apart := false, laid := [("unicode/utf8.acceptRanges", laid_unicode_utf8_acceptRanges), ("unicode/utf8.first", laid_unicode_utf8_first)], narrowed := true }
def FnBallClassesUptoSaid : Prop := fnBallClassesUptoRow.holds Tryd.pinned (OpenSpec.upto fnBallClassesSpec)

/-- 'laws.FnExactPutVars', WHERE WHAT IT READS IS OF BULK AT MOST 1048576: true; the input reads as it did. -/
def fnExactPutVarsUptoRow : OpenClaim := { program := "ytefneihlgclkbaadoor", sum := "482bbf98b69d3a01d43f69c0b4a3fdca86ef93e59c7cc9eba255000bd013dfbc", func := "loop.example/gamesonstructures/laws.FnExactPutVars", spec := "fnExactPutVars", inPlace := ["internal/bytealg.IndexByteString", "internal/bytealg.IndexString"], recurses := true, named := ["internal/bytealg.MaxLen", "unicode/utf8.first", "unicode/utf8.acceptRanges"], apart := false, laid := [("unicode/utf8.acceptRanges", laid_unicode_utf8_acceptRanges), ("unicode/utf8.first", laid_unicode_utf8_first)], narrowed := true }
def FnExactPutVarsUptoSaid : Prop := fnExactPutVarsUptoRow.holds Tryd.pinned (OpenSpec.upto fnExactPutVarsSpec)

end Rows
end Go.Proofs.YtefneihlgclkbaaDoor
