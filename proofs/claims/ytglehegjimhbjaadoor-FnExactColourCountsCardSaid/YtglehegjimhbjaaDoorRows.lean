/-
  NARROWER THAN 'FOR EVERY INPUT', by the rows' own cells (each row's printed sentence says how): FnExactBothColours: laid · FnExactColoursOf: laid · FnExactSameColours: laid · FnExactColourRound: laid · FnExactStableColours: laid · FnExactColourCounts: laid.
  DERIVED. THE GIVEN ROWS OF THIS SEAT. 6 by the template 'for every input the law returns true; each argument reads behind the call as it read before'; 0 by the template 'total and deterministic' (their statements: YtglehegjimhbjaaDoorTotals.lean).
  GIVEN WITH THE SEED: the statements are not yours to turn. If you find one false, say at which input.
  Laid BY PROGRAM, IN A SANDBOX (cutbox-rows.mjs): the forced cells as the released guide's own fill.sh prints them over the translation 486ba2c9018e6be3… (all of the seat's roots in one cut). By AI agents, Wed Nov 11 2026. No macro, syntax, notation, axiom, sorry.
-/
import Derived.Test.YtglehegjimhbjaaDoorChecked
import GoSem.PinnedTables
import GoSem.Claim
import GoSem.ClaimJoined
import GoSem.ClaimMapViews
import Derived.JoinedTies
import Derived.KernelRfl
namespace Go.Proofs.YtglehegjimhbjaaDoor
/- THE CELL 'sum', in the pinned program and in every row, IS THE sha256 OF THE DUMP (.gsa) THAT YtglehegjimhbjaaDoorProg.lean LOADS. Nothing in Lean hashes anything: it is a label: what it is worth is what the hold of that sum in a sandbox is worth. -/
noncomputable def Tryd.pinned : Pinned := { name := "ytglehegjimhbjaadoor", sum := "486ba2c9018e6be3947ca41b3dd679b0a33bdfe840da0b0a5d29424af7456e8c", checked := Tryd.checked }
namespace Rows
def none {H : Type} : Left H := { results := [], args := [] }

/- WHAT THE LISTED PACKAGE-LEVEL VARIABLES READ AS WHEN THE CALL BEGINS. Each datum BY PROGRAM (the guide's laid-datum.mjs) off the statement by which the dump's own 'gosem.cut.vars' lays the variable. In a bare row this is a premise. The card (YtglehegjimhbjaaDoorCards.lean) ties it to the program's text. -/
def laid_unicode_utf8_acceptRanges {H : Type} : DataW H := .agg [.agg [.lit (.int .u8 128), .lit (.int .u8 191)], .agg [.lit (.int .u8 160), .lit (.int .u8 191)], .agg [.lit (.int .u8 128), .lit (.int .u8 159)], .agg [.lit (.int .u8 144), .lit (.int .u8 191)], .agg [.lit (.int .u8 128), .lit (.int .u8 143)], .agg [.lit (.int .u8 0), .lit (.int .u8 0)], .agg [.lit (.int .u8 0), .lit (.int .u8 0)], .agg [.lit (.int .u8 0), .lit (.int .u8 0)], .agg [.lit (.int .u8 0), .lit (.int .u8 0)], .agg [.lit (.int .u8 0), .lit (.int .u8 0)], .agg [.lit (.int .u8 0), .lit (.int .u8 0)], .agg [.lit (.int .u8 0), .lit (.int .u8 0)], .agg [.lit (.int .u8 0), .lit (.int .u8 0)], .agg [.lit (.int .u8 0), .lit (.int .u8 0)], .agg [.lit (.int .u8 0), .lit (.int .u8 0)], .agg [.lit (.int .u8 0), .lit (.int .u8 0)]]
/-- One of Go's own tables, pinned by name: the form's constant. -/
def laid_unicode_utf8_first : DataW Unit := Go.Pinned.utf8First

/-- 'laws.FnExactBothColours': WHATEVER THE INPUT: true; the input reads as it did. -/
def fnExactBothColoursSpec : ChangeSpec := { name := "fnExactBothColours", fn := fun _ => fun
  | [d1, d2, d3] => { results := [.lit (.bool true)], args := [d1, d2, d3] }
  | _ => none }
def fnExactBothColoursRow : OpenClaim := { program := "ytglehegjimhbjaadoor", sum := "486ba2c9018e6be3947ca41b3dd679b0a33bdfe840da0b0a5d29424af7456e8c", func := "loop.example/gamesonstructures/laws.FnExactBothColours", spec := "fnExactBothColours", inPlace := ["internal/bytealg.IndexByteString", "internal/bytealg.IndexString"], unfollowed := true, recurses := true, named := ["unicode/utf8.first", "unicode/utf8.acceptRanges", "internal/bytealg.MaxLen"], apart := false, laid := [("unicode/utf8.acceptRanges", laid_unicode_utf8_acceptRanges), ("unicode/utf8.first", laid_unicode_utf8_first)] }
def FnExactBothColoursSaid : Prop := fnExactBothColoursRow.holds Tryd.pinned (OpenSpec.ofChange fnExactBothColoursSpec)

/-- ITS FALSE NEIGHBOUR: 'it returns false'. Refute it at one input. -/
def fnExactBothColoursWrong : ChangeSpec := { name := "fnExactBothColours", fn := fun _ => fun
  | [d1, d2, d3] => { results := [.lit (.bool false)], args := [d1, d2, d3] }
  | _ => none }
def FnExactBothColoursWrongFalsely : Prop := fnExactBothColoursRow.holds Tryd.pinned (OpenSpec.ofChange fnExactBothColoursWrong)

/-- 'laws.FnExactColoursOf': WHATEVER THE INPUT: true; the input reads as it did. -/
def fnExactColoursOfSpec : ChangeSpec := { name := "fnExactColoursOf", fn := fun _ => fun
  | [d1, d2] => { results := [.lit (.bool true)], args := [d1, d2] }
  | _ => none }
def fnExactColoursOfRow : OpenClaim := { program := "ytglehegjimhbjaadoor", sum := "486ba2c9018e6be3947ca41b3dd679b0a33bdfe840da0b0a5d29424af7456e8c", func := "loop.example/gamesonstructures/laws.FnExactColoursOf", spec := "fnExactColoursOf", inPlace := ["internal/bytealg.IndexByteString", "internal/bytealg.IndexString"], unfollowed := true, recurses := true, named := ["unicode/utf8.first", "unicode/utf8.acceptRanges", "internal/bytealg.MaxLen"], apart := false, laid := [("unicode/utf8.acceptRanges", laid_unicode_utf8_acceptRanges), ("unicode/utf8.first", laid_unicode_utf8_first)] }
def FnExactColoursOfSaid : Prop := fnExactColoursOfRow.holds Tryd.pinned (OpenSpec.ofChange fnExactColoursOfSpec)

/-- ITS FALSE NEIGHBOUR: 'it returns false'. Refute it at one input. -/
def fnExactColoursOfWrong : ChangeSpec := { name := "fnExactColoursOf", fn := fun _ => fun
  | [d1, d2] => { results := [.lit (.bool false)], args := [d1, d2] }
  | _ => none }
def FnExactColoursOfWrongFalsely : Prop := fnExactColoursOfRow.holds Tryd.pinned (OpenSpec.ofChange fnExactColoursOfWrong)

/-- 'laws.FnExactSameColours': WHATEVER THE INPUT: true; the input reads as it did. -/
def fnExactSameColoursSpec : ChangeSpec := { name := "fnExactSameColours", fn := fun _ => fun
  | [d1, d2] => { results := [.lit (.bool true)], args := [d1, d2] }
  | _ => none }
def fnExactSameColoursRow : OpenClaim := { program := "ytglehegjimhbjaadoor", sum := "486ba2c9018e6be3947ca41b3dd679b0a33bdfe840da0b0a5d29424af7456e8c", func := "loop.example/gamesonstructures/laws.FnExactSameColours", spec := "fnExactSameColours", inPlace := ["internal/bytealg.IndexByteString", "internal/bytealg.IndexString"], unfollowed := true, recurses := true, named := ["unicode/utf8.first", "unicode/utf8.acceptRanges", "internal/bytealg.MaxLen"], apart := false, laid := [("unicode/utf8.acceptRanges", laid_unicode_utf8_acceptRanges), ("unicode/utf8.first", laid_unicode_utf8_first)] }
def FnExactSameColoursSaid : Prop := fnExactSameColoursRow.holds Tryd.pinned (OpenSpec.ofChange fnExactSameColoursSpec)

/-- ITS FALSE NEIGHBOUR: 'it returns false'. Refute it at one input. -/
def fnExactSameColoursWrong : ChangeSpec := { name := "fnExactSameColours", fn := fun _ => fun
  | [d1, d2] => { results := [.lit (.bool false)], args := [d1, d2] }
  | _ => none }
def FnExactSameColoursWrongFalsely : Prop := fnExactSameColoursRow.holds Tryd.pinned (OpenSpec.ofChange fnExactSameColoursWrong)

/-- 'laws.FnExactColourRound': WHATEVER THE INPUT: true; the input reads as it did. -/
def fnExactColourRoundSpec : ChangeSpec := { name := "fnExactColourRound", fn := fun _ => fun
  | [d1, d2] => { results := [.lit (.bool true)], args := [d1, d2] }
  | _ => none }
def fnExactColourRoundRow : OpenClaim := { program := "ytglehegjimhbjaadoor", sum := "486ba2c9018e6be3947ca41b3dd679b0a33bdfe840da0b0a5d29424af7456e8c", func := "loop.example/gamesonstructures/laws.FnExactColourRound", spec := "fnExactColourRound", inPlace := ["internal/bytealg.IndexByteString", "internal/bytealg.IndexString"], unfollowed := true, recurses := true, named := ["unicode/utf8.first", "unicode/utf8.acceptRanges", "internal/bytealg.MaxLen"], apart := false, laid := [("unicode/utf8.acceptRanges", laid_unicode_utf8_acceptRanges), ("unicode/utf8.first", laid_unicode_utf8_first)] }
def FnExactColourRoundSaid : Prop := fnExactColourRoundRow.holds Tryd.pinned (OpenSpec.ofChange fnExactColourRoundSpec)

/-- ITS FALSE NEIGHBOUR: 'it returns false'. Refute it at one input. -/
def fnExactColourRoundWrong : ChangeSpec := { name := "fnExactColourRound", fn := fun _ => fun
  | [d1, d2] => { results := [.lit (.bool false)], args := [d1, d2] }
  | _ => none }
def FnExactColourRoundWrongFalsely : Prop := fnExactColourRoundRow.holds Tryd.pinned (OpenSpec.ofChange fnExactColourRoundWrong)

/-- 'laws.FnExactStableColours': WHATEVER THE INPUT: true; the input reads as it did. -/
def fnExactStableColoursSpec : ChangeSpec := { name := "fnExactStableColours", fn := fun _ => fun
  | [d] => { results := [.lit (.bool true)], args := [d] }
  | _ => none }
def fnExactStableColoursRow : OpenClaim := { program := "ytglehegjimhbjaadoor", sum := "486ba2c9018e6be3947ca41b3dd679b0a33bdfe840da0b0a5d29424af7456e8c", func := "loop.example/gamesonstructures/laws.FnExactStableColours", spec := "fnExactStableColours", inPlace := ["internal/bytealg.IndexByteString", "internal/bytealg.IndexString"], unfollowed := true, recurses := true, named := ["unicode/utf8.first", "unicode/utf8.acceptRanges", "internal/bytealg.MaxLen"], apart := false, laid := [("unicode/utf8.acceptRanges", laid_unicode_utf8_acceptRanges), ("unicode/utf8.first", laid_unicode_utf8_first)] }
def FnExactStableColoursSaid : Prop := fnExactStableColoursRow.holds Tryd.pinned (OpenSpec.ofChange fnExactStableColoursSpec)

/-- ITS FALSE NEIGHBOUR: 'it returns false'. Refute it at one input. -/
def fnExactStableColoursWrong : ChangeSpec := { name := "fnExactStableColours", fn := fun _ => fun
  | [d] => { results := [.lit (.bool false)], args := [d] }
  | _ => none }
def FnExactStableColoursWrongFalsely : Prop := fnExactStableColoursRow.holds Tryd.pinned (OpenSpec.ofChange fnExactStableColoursWrong)

/-- 'laws.FnExactColourCounts': WHATEVER THE INPUT: true; the input reads as it did. -/
def fnExactColourCountsSpec : ChangeSpec := { name := "fnExactColourCounts", fn := fun _ => fun
  | [d1, d2] => { results := [.lit (.bool true)], args := [d1, d2] }
  | _ => none }
def fnExactColourCountsRow : OpenClaim := { program := "ytglehegjimhbjaadoor", sum := "486ba2c9018e6be3947ca41b3dd679b0a33bdfe840da0b0a5d29424af7456e8c", func := "loop.example/gamesonstructures/laws.FnExactColourCounts", spec := "fnExactColourCounts", inPlace := ["internal/bytealg.IndexByteString", "internal/bytealg.IndexString"], unfollowed := true, recurses := true, named := ["unicode/utf8.first", "unicode/utf8.acceptRanges", "internal/bytealg.MaxLen"], apart := false, laid := [("unicode/utf8.acceptRanges", laid_unicode_utf8_acceptRanges), ("unicode/utf8.first", laid_unicode_utf8_first)] }
def FnExactColourCountsSaid : Prop := fnExactColourCountsRow.holds Tryd.pinned (OpenSpec.ofChange fnExactColourCountsSpec)

/-- ITS FALSE NEIGHBOUR: 'it returns false'. Refute it at one input. -/
def fnExactColourCountsWrong : ChangeSpec := { name := "fnExactColourCounts", fn := fun _ => fun
  | [d1, d2] => { results := [.lit (.bool false)], args := [d1, d2] }
  | _ => none }
def FnExactColourCountsWrongFalsely : Prop := fnExactColourCountsRow.holds Tryd.pinned (OpenSpec.ofChange fnExactColourCountsWrong)

/- THE SECOND FORM. 'bulk': how many values and letters a reading holds, each counted each time it is reached (what is shared counts as often as it is met; a slice's spare places count too). A statement '..UptoSaid' is the law's where the arguments, and the package variables that the reading takes, are together of bulk at most 1048576: NARROWER than '..Said'. Prove '..Said' where nothing that the law and all that it calls make is longer than what came in: it says more and counts as full. Else prove '..UptoSaid'. A law counts once. -/
mutual
def uptoBulk {H : Type} : DataW H → Nat
  | .lit (.string bytes) => bytes.length + 1
  | .lit _ => 1
  | .nil => 1
  | .ptr d => uptoBulk d + 1
  | .slice elems spare => uptoBulkAll elems + uptoBulkAll spare + 1
  | .agg parts => uptoBulkAll parts + 1
  | .iface _ d => uptoBulk d + 1
  | .map entries => uptoBulkEntries entries + 1
  | .held _ => 1
def uptoBulkAll {H : Type} : List (DataW H) → Nat
  | [] => 0
  | d :: r => uptoBulk d + uptoBulkAll r
def uptoBulkEntries {H : Type} : List (Lit × DataW H) → Nat
  | [] => 0
  | x :: r => uptoBulkEntry x + uptoBulkEntries r
def uptoBulkEntry {H : Type} : Lit × DataW H → Nat
  | (.string bytes, d) => bytes.length + uptoBulk d + 1
  | (_, d) => uptoBulk d + 1
 end
def uptoSmall : (H : Type) → List (DataW H) → Bool := fun _ ds => decide (uptoBulkAll ds ≤ 1048576)
def OpenSpec.upto (s : _root_.Go.ChangeSpec) : _root_.Go.OpenSpec := { _root_.Go.OpenSpec.ofChange s with cond := some uptoSmall }

/-- 'laws.FnExactBothColours', WHERE WHAT IT READS IS OF BULK AT MOST 1048576: true; the input reads as it did. -/
def fnExactBothColoursUptoRow : OpenClaim := { program := "ytglehegjimhbjaadoor", sum := "486ba2c9018e6be3947ca41b3dd679b0a33bdfe840da0b0a5d29424af7456e8c", func := "loop.example/gamesonstructures/laws.FnExactBothColours", spec := "fnExactBothColours", inPlace := ["internal/bytealg.IndexByteString", "internal/bytealg.IndexString"], unfollowed := true, recurses := true, named := ["unicode/utf8.first", "unicode/utf8.acceptRanges", "internal/bytealg.MaxLen"], apart := false, laid := [("unicode/utf8.acceptRanges", laid_unicode_utf8_acceptRanges), ("unicode/utf8.first", laid_unicode_utf8_first)], narrowed := true }
def FnExactBothColoursUptoSaid : Prop := fnExactBothColoursUptoRow.holds Tryd.pinned (OpenSpec.upto fnExactBothColoursSpec)

/-- 'laws.FnExactColoursOf', WHERE WHAT IT READS IS OF BULK AT MOST 1048576: true; the input reads as it did. -/
def fnExactColoursOfUptoRow : OpenClaim := { program := "ytglehegjimhbjaadoor", sum := "486ba2c9018e6be3947ca41b3dd679b0a33bdfe840da0b0a5d29424af7456e8c", func := "loop.example/gamesonstructures/laws.FnExactColoursOf", spec := "fnExactColoursOf", inPlace := ["internal/bytealg.IndexByteString", "internal/bytealg.IndexString"], unfollowed := true, recurses := true, named := ["unicode/utf8.first", "unicode/utf8.acceptRanges", "internal/bytealg.MaxLen"], apart := false, laid := [("unicode/utf8.acceptRanges", laid_unicode_utf8_acceptRanges), ("unicode/utf8.first", laid_unicode_utf8_first)], narrowed := true }
def FnExactColoursOfUptoSaid : Prop := fnExactColoursOfUptoRow.holds Tryd.pinned (OpenSpec.upto fnExactColoursOfSpec)

/-- 'laws.FnExactSameColours', WHERE WHAT IT READS IS OF BULK AT MOST 1048576: true; the input reads as it did. -/
def fnExactSameColoursUptoRow : OpenClaim := { program := "ytglehegjimhbjaadoor", sum := "486ba2c9018e6be3947ca41b3dd679b0a33bdfe840da0b0a5d29424af7456e8c", func := "loop.example/gamesonstructures/laws.FnExactSameColours", spec := "fnExactSameColours", inPlace := ["internal/bytealg.IndexByteString", "internal/bytealg.IndexString"], unfollowed := true, recurses := true, named := ["unicode/utf8.first", "unicode/utf8.acceptRanges", "internal/bytealg.MaxLen"], apart := false, laid := [("unicode/utf8.acceptRanges", laid_unicode_utf8_acceptRanges), ("unicode/utf8.first", laid_unicode_utf8_first)], narrowed := true }
def FnExactSameColoursUptoSaid : Prop := fnExactSameColoursUptoRow.holds Tryd.pinned (OpenSpec.upto fnExactSameColoursSpec)

/-- 'laws.FnExactColourRound', WHERE WHAT IT READS IS OF BULK AT MOST 1048576: true; the input reads as it did. -/
def fnExactColourRoundUptoRow : OpenClaim := { program := "ytglehegjimhbjaadoor", sum := "486ba2c9018e6be3947ca41b3dd679b0a33bdfe840da0b0a5d29424af7456e8c", func := "loop.example/gamesonstructures/laws.FnExactColourRound", spec := "fnExactColourRound", inPlace := ["internal/bytealg.IndexByteString", "internal/bytealg.IndexString"], unfollowed := true, recurses := true, named := ["unicode/utf8.first", "unicode/utf8.acceptRanges", "internal/bytealg.MaxLen"], apart := false, laid := [("unicode/utf8.acceptRanges", laid_unicode_utf8_acceptRanges), ("unicode/utf8.first", laid_unicode_utf8_first)], narrowed := true }
def FnExactColourRoundUptoSaid : Prop := fnExactColourRoundUptoRow.holds Tryd.pinned (OpenSpec.upto fnExactColourRoundSpec)

/-- 'laws.FnExactStableColours', WHERE WHAT IT READS IS OF BULK AT MOST 1048576: true; the input reads as it did. -/
def fnExactStableColoursUptoRow : OpenClaim := { program := "ytglehegjimhbjaadoor", sum := "486ba2c9018e6be3947ca41b3dd679b0a33bdfe840da0b0a5d29424af7456e8c", func := "loop.example/gamesonstructures/laws.FnExactStableColours", spec := "fnExactStableColours", inPlace := ["internal/bytealg.IndexByteString", "internal/bytealg.IndexString"], unfollowed := true, recurses := true, named := ["unicode/utf8.first", "unicode/utf8.acceptRanges", "internal/bytealg.MaxLen"], apart := false, laid := [("unicode/utf8.acceptRanges", laid_unicode_utf8_acceptRanges), ("unicode/utf8.first", laid_unicode_utf8_first)], narrowed := true }
def FnExactStableColoursUptoSaid : Prop := fnExactStableColoursUptoRow.holds Tryd.pinned (OpenSpec.upto fnExactStableColoursSpec)

/-- 'laws.FnExactColourCounts', WHERE WHAT IT READS IS OF BULK AT MOST 1048576: true; the input reads as it did. -/
def fnExactColourCountsUptoRow : OpenClaim := { program := "ytglehegjimhbjaadoor", sum := "486ba2c9018e6be3947ca41b3dd679b0a33bdfe840da0b0a5d29424af7456e8c", func := "loop.example/gamesonstructures/laws.FnExactColourCounts", spec := "fnExactColourCounts", inPlace := ["internal/bytealg.IndexByteString", "internal/bytealg.IndexString"], unfollowed := true, recurses := true, named := ["unicode/utf8.first", "unicode/utf8.acceptRanges", "internal/bytealg.MaxLen"], apart := false, laid := [("unicode/utf8.acceptRanges", laid_unicode_utf8_acceptRanges), ("unicode/utf8.first", laid_unicode_utf8_first)], narrowed := true }
def FnExactColourCountsUptoSaid : Prop := fnExactColourCountsUptoRow.holds Tryd.pinned (OpenSpec.upto fnExactColourCountsSpec)

end Rows
end Go.Proofs.YtglehegjimhbjaaDoor
