/-
  NARROWER THAN 'FOR EVERY INPUT', by the rows' own cells (each row's printed sentence says how): FnStable: laid · FnBothColours: laid · FnColourCounts: laid · FnColours: laid · FnSameColours: laid · FnSumColours: laid.
  DERIVED. THE GIVEN ROWS OF THIS SEAT. 6 by the template 'for every input the law returns true; each argument reads behind the call as it read before'; 0 by the template 'total and deterministic' (their statements: YtglehegjimhbjaaGreatDoorTotals.lean).
  GIVEN WITH THE SEED: the statements are not yours to turn. If you find one false, say at which input.
  Laid BY PROGRAM, IN A SANDBOX (cutbox-rows.mjs): the forced cells as the released guide's own fill.sh prints them over the translation 691a17db0ea411b0… (all of the seat's roots in one cut). By AI agents, Wed Nov 11 2026. No macro, syntax, notation, axiom, sorry.
-/
import Derived.Test.YtglehegjimhbjaaGreatDoorChecked
import GoSem.PinnedTables
import GoSem.Claim
import GoSem.ClaimJoined
import GoSem.ClaimMapViews
import Derived.JoinedTies
import Derived.KernelRfl
namespace Go.Proofs.YtglehegjimhbjaaGreatDoor
/- THE CELL 'sum', in the pinned program and in every row, IS THE sha256 OF THE DUMP (.gsa) THAT YtglehegjimhbjaaGreatDoorProg.lean LOADS. Nothing in Lean hashes anything: it is a label: what it is worth is what the hold of that sum in a sandbox is worth. -/
noncomputable def Tryz.pinned : Pinned := { name := "ytglehegjimhbjaagreatdoor", sum := "691a17db0ea411b0835014cb836719a4033866c48a7a2a789c1a3b8138b50899", checked := Tryz.checked }
namespace Rows
def none {H : Type} : Left H := { results := [], args := [] }

/- WHAT THE LISTED PACKAGE-LEVEL VARIABLES READ AS WHEN THE CALL BEGINS. Each datum BY PROGRAM (the guide's laid-datum.mjs) off the statement by which the dump's own 'gosem.cut.vars' lays the variable. In a bare row this is a premise. The card (YtglehegjimhbjaaGreatDoorCards.lean) ties it to the program's text. -/
def laid_unicode_utf8_acceptRanges {H : Type} : DataW H := .agg [.agg [.lit (.int .u8 128), .lit (.int .u8 191)], .agg [.lit (.int .u8 160), .lit (.int .u8 191)], .agg [.lit (.int .u8 128), .lit (.int .u8 159)], .agg [.lit (.int .u8 144), .lit (.int .u8 191)], .agg [.lit (.int .u8 128), .lit (.int .u8 143)], .agg [.lit (.int .u8 0), .lit (.int .u8 0)], .agg [.lit (.int .u8 0), .lit (.int .u8 0)], .agg [.lit (.int .u8 0), .lit (.int .u8 0)], .agg [.lit (.int .u8 0), .lit (.int .u8 0)], .agg [.lit (.int .u8 0), .lit (.int .u8 0)], .agg [.lit (.int .u8 0), .lit (.int .u8 0)], .agg [.lit (.int .u8 0), .lit (.int .u8 0)], .agg [.lit (.int .u8 0), .lit (.int .u8 0)], .agg [.lit (.int .u8 0), .lit (.int .u8 0)], .agg [.lit (.int .u8 0), .lit (.int .u8 0)], .agg [.lit (.int .u8 0), .lit (.int .u8 0)]]
/-- One of Go's own tables, pinned by name: the form's constant. -/
def laid_unicode_utf8_first : DataW Unit := Go.Pinned.utf8First

/-- 'laws.FnStable': WHATEVER THE INPUT: true; the input reads as it did. -/
def fnStableSpec : ChangeSpec := { name := "fnStable", fn := fun _ => fun
  | [d] => { results := [.lit (.bool true)], args := [d] }
  | _ => none }
def fnStableRow : OpenClaim := { program := "ytglehegjimhbjaagreatdoor", sum := "691a17db0ea411b0835014cb836719a4033866c48a7a2a789c1a3b8138b50899", func := "loop.example/gamesonstructures/laws.FnStable", spec := "fnStable", inPlace := ["internal/bytealg.IndexByteString", "internal/bytealg.IndexString"], unfollowed := true, recurses := true, named := ["unicode/utf8.first", "unicode/utf8.acceptRanges", "internal/bytealg.MaxLen"], apart := false, laid := [("unicode/utf8.acceptRanges", laid_unicode_utf8_acceptRanges), ("unicode/utf8.first", laid_unicode_utf8_first)] }
def FnStableSaid : Prop := fnStableRow.holds Tryz.pinned (OpenSpec.ofChange fnStableSpec)

/-- ITS FALSE NEIGHBOUR: 'it returns false'. Refute it at one input. -/
def fnStableWrong : ChangeSpec := { name := "fnStable", fn := fun _ => fun
  | [d] => { results := [.lit (.bool false)], args := [d] }
  | _ => none }
def FnStableWrongFalsely : Prop := fnStableRow.holds Tryz.pinned (OpenSpec.ofChange fnStableWrong)

/-- 'laws.FnBothColours': WHATEVER THE INPUT: true; the input reads as it did. -/
def fnBothColoursSpec : ChangeSpec := { name := "fnBothColours", fn := fun _ => fun
  | [d] => { results := [.lit (.bool true)], args := [d] }
  | _ => none }
def fnBothColoursRow : OpenClaim := { program := "ytglehegjimhbjaagreatdoor", sum := "691a17db0ea411b0835014cb836719a4033866c48a7a2a789c1a3b8138b50899", func := "loop.example/gamesonstructures/laws.FnBothColours", spec := "fnBothColours", inPlace := ["internal/bytealg.IndexByteString", "internal/bytealg.IndexString"], unfollowed := true, recurses := true, named := ["unicode/utf8.first", "unicode/utf8.acceptRanges", "internal/bytealg.MaxLen"], apart := false, laid := [("unicode/utf8.acceptRanges", laid_unicode_utf8_acceptRanges), ("unicode/utf8.first", laid_unicode_utf8_first)] }
def FnBothColoursSaid : Prop := fnBothColoursRow.holds Tryz.pinned (OpenSpec.ofChange fnBothColoursSpec)

/-- ITS FALSE NEIGHBOUR: 'it returns false'. Refute it at one input. -/
def fnBothColoursWrong : ChangeSpec := { name := "fnBothColours", fn := fun _ => fun
  | [d] => { results := [.lit (.bool false)], args := [d] }
  | _ => none }
def FnBothColoursWrongFalsely : Prop := fnBothColoursRow.holds Tryz.pinned (OpenSpec.ofChange fnBothColoursWrong)

/-- 'laws.FnColourCounts': WHATEVER THE INPUT: true; the input reads as it did. -/
def fnColourCountsSpec : ChangeSpec := { name := "fnColourCounts", fn := fun _ => fun
  | [d] => { results := [.lit (.bool true)], args := [d] }
  | _ => none }
def fnColourCountsRow : OpenClaim := { program := "ytglehegjimhbjaagreatdoor", sum := "691a17db0ea411b0835014cb836719a4033866c48a7a2a789c1a3b8138b50899", func := "loop.example/gamesonstructures/laws.FnColourCounts", spec := "fnColourCounts", inPlace := ["internal/bytealg.IndexByteString", "internal/bytealg.IndexString"], unfollowed := true, recurses := true, named := ["unicode/utf8.first", "unicode/utf8.acceptRanges", "internal/bytealg.MaxLen"], apart := false, laid := [("unicode/utf8.acceptRanges", laid_unicode_utf8_acceptRanges), ("unicode/utf8.first", laid_unicode_utf8_first)] }
def FnColourCountsSaid : Prop := fnColourCountsRow.holds Tryz.pinned (OpenSpec.ofChange fnColourCountsSpec)

/-- ITS FALSE NEIGHBOUR: 'it returns false'. Refute it at one input. -/
def fnColourCountsWrong : ChangeSpec := { name := "fnColourCounts", fn := fun _ => fun
  | [d] => { results := [.lit (.bool false)], args := [d] }
  | _ => none }
def FnColourCountsWrongFalsely : Prop := fnColourCountsRow.holds Tryz.pinned (OpenSpec.ofChange fnColourCountsWrong)

/-- 'laws.FnColours': WHATEVER THE INPUT: true; the input reads as it did. -/
def fnColoursSpec : ChangeSpec := { name := "fnColours", fn := fun _ => fun
  | [d1, d2] => { results := [.lit (.bool true)], args := [d1, d2] }
  | _ => none }
def fnColoursRow : OpenClaim := { program := "ytglehegjimhbjaagreatdoor", sum := "691a17db0ea411b0835014cb836719a4033866c48a7a2a789c1a3b8138b50899", func := "loop.example/gamesonstructures/laws.FnColours", spec := "fnColours", inPlace := ["internal/bytealg.IndexByteString", "internal/bytealg.IndexString"], unfollowed := true, recurses := true, named := ["unicode/utf8.first", "unicode/utf8.acceptRanges", "internal/bytealg.MaxLen"], apart := false, laid := [("unicode/utf8.acceptRanges", laid_unicode_utf8_acceptRanges), ("unicode/utf8.first", laid_unicode_utf8_first)] }
def FnColoursSaid : Prop := fnColoursRow.holds Tryz.pinned (OpenSpec.ofChange fnColoursSpec)

/-- ITS FALSE NEIGHBOUR: 'it returns false'. Refute it at one input. -/
def fnColoursWrong : ChangeSpec := { name := "fnColours", fn := fun _ => fun
  | [d1, d2] => { results := [.lit (.bool false)], args := [d1, d2] }
  | _ => none }
def FnColoursWrongFalsely : Prop := fnColoursRow.holds Tryz.pinned (OpenSpec.ofChange fnColoursWrong)

/-- 'laws.FnSameColours': WHATEVER THE INPUT: true; the input reads as it did. -/
def fnSameColoursSpec : ChangeSpec := { name := "fnSameColours", fn := fun _ => fun
  | [d] => { results := [.lit (.bool true)], args := [d] }
  | _ => none }
def fnSameColoursRow : OpenClaim := { program := "ytglehegjimhbjaagreatdoor", sum := "691a17db0ea411b0835014cb836719a4033866c48a7a2a789c1a3b8138b50899", func := "loop.example/gamesonstructures/laws.FnSameColours", spec := "fnSameColours", inPlace := ["internal/bytealg.IndexByteString", "internal/bytealg.IndexString"], unfollowed := true, recurses := true, named := ["unicode/utf8.first", "unicode/utf8.acceptRanges", "internal/bytealg.MaxLen"], apart := false, laid := [("unicode/utf8.acceptRanges", laid_unicode_utf8_acceptRanges), ("unicode/utf8.first", laid_unicode_utf8_first)] }
def FnSameColoursSaid : Prop := fnSameColoursRow.holds Tryz.pinned (OpenSpec.ofChange fnSameColoursSpec)

/-- ITS FALSE NEIGHBOUR: 'it returns false'. Refute it at one input. -/
def fnSameColoursWrong : ChangeSpec := { name := "fnSameColours", fn := fun _ => fun
  | [d] => { results := [.lit (.bool false)], args := [d] }
  | _ => none }
def FnSameColoursWrongFalsely : Prop := fnSameColoursRow.holds Tryz.pinned (OpenSpec.ofChange fnSameColoursWrong)

/-- 'laws.FnSumColours': WHATEVER THE INPUT: true; the input reads as it did. -/
def fnSumColoursSpec : ChangeSpec := { name := "fnSumColours", fn := fun _ => fun
  | [d1, d2] => { results := [.lit (.bool true)], args := [d1, d2] }
  | _ => none }
def fnSumColoursRow : OpenClaim := { program := "ytglehegjimhbjaagreatdoor", sum := "691a17db0ea411b0835014cb836719a4033866c48a7a2a789c1a3b8138b50899", func := "loop.example/gamesonstructures/laws.FnSumColours", spec := "fnSumColours", inPlace := ["internal/bytealg.IndexByteString", "internal/bytealg.IndexString"], unfollowed := true, recurses := true, named := ["unicode/utf8.first", "unicode/utf8.acceptRanges", "internal/bytealg.MaxLen"], apart := false, laid := [("unicode/utf8.acceptRanges", laid_unicode_utf8_acceptRanges), ("unicode/utf8.first", laid_unicode_utf8_first)] }
def FnSumColoursSaid : Prop := fnSumColoursRow.holds Tryz.pinned (OpenSpec.ofChange fnSumColoursSpec)

/-- ITS FALSE NEIGHBOUR: 'it returns false'. Refute it at one input. -/
def fnSumColoursWrong : ChangeSpec := { name := "fnSumColours", fn := fun _ => fun
  | [d1, d2] => { results := [.lit (.bool false)], args := [d1, d2] }
  | _ => none }
def FnSumColoursWrongFalsely : Prop := fnSumColoursRow.holds Tryz.pinned (OpenSpec.ofChange fnSumColoursWrong)

/- THE SECOND FORM. 'bulk': how many values and letters a reading holds, each counted each time it is reached (what is shared counts as often as it is met; a slice's spare places count too). A statement '..UptoSaid' is the law's where the arguments, and the package variables that the reading takes, are together of bulk at most 1048576: NARROWER than '..Said'. Prove '..Said' where nothing that the law and all that it calls make is longer than what came in: it says more and counts as full. Else prove '..UptoSaid'. A law counts once. -/
mutual
def uptoBulk {H : Type} : DataW H → Nat
  | .lit (.string bytes) => bytes.length + 1
  | .lit _ => 1
  | .nil => 1
  | .ptr d => uptoBulk d + 1
  | .slice elems spare => uptoBulkAll elems + uptoBulkAll spare + 1
  | .agg parts => uptoBulkAll parts + 1
  | .iface _ d => uptoBulk d + 1
  | .map entries => uptoBulkEntries entries + 1
  | .held _ => 1
def uptoBulkAll {H : Type} : List (DataW H) → Nat
  | [] => 0
  | d :: r => uptoBulk d + uptoBulkAll r
def uptoBulkEntries {H : Type} : List (Lit × DataW H) → Nat
  | [] => 0
  | x :: r => uptoBulkEntry x + uptoBulkEntries r
def uptoBulkEntry {H : Type} : Lit × DataW H → Nat
  | (.string bytes, d) => bytes.length + uptoBulk d + 1
  | (_, d) => uptoBulk d + 1
 end
def uptoSmall : (H : Type) → List (DataW H) → Bool := fun _ ds => decide (uptoBulkAll ds ≤ 1048576)
def OpenSpec.upto (s : _root_.Go.ChangeSpec) : _root_.Go.OpenSpec := { _root_.Go.OpenSpec.ofChange s with cond := some uptoSmall }

/-- 'laws.FnStable', WHERE WHAT IT READS IS OF BULK AT MOST 1048576: true; the input reads as it did. -/
def fnStableUptoRow : OpenClaim := { program := "ytglehegjimhbjaagreatdoor", sum := "691a17db0ea411b0835014cb836719a4033866c48a7a2a789c1a3b8138b50899", func := "loop.example/gamesonstructures/laws.FnStable", spec := "fnStable", inPlace := ["internal/bytealg.IndexByteString", "internal/bytealg.IndexString"], unfollowed := true, recurses := true, named := ["unicode/utf8.first", "unicode/utf8.acceptRanges", "internal/bytealg.MaxLen"], apart := false, laid := [("unicode/utf8.acceptRanges", laid_unicode_utf8_acceptRanges), ("unicode/utf8.first", laid_unicode_utf8_first)], narrowed := true }
def FnStableUptoSaid : Prop := fnStableUptoRow.holds Tryz.pinned (OpenSpec.upto fnStableSpec)

/-- 'laws.FnBothColours', WHERE WHAT IT READS IS OF BULK AT MOST 1048576: true; the input reads as it did. -/
def fnBothColoursUptoRow : OpenClaim := { program := "ytglehegjimhbjaagreatdoor", sum := "691a17db0ea411b0835014cb836719a4033866c48a7a2a789c1a3b8138b50899", func := "loop.example/gamesonstructures/laws.FnBothColours", spec := "fnBothColours", inPlace := ["internal/bytealg.IndexByteString", "internal/bytealg.IndexString"], unfollowed := true, recurses := true, named := ["unicode/utf8.first", "unicode/utf8.acceptRanges", "internal/bytealg.MaxLen"], apart := false, laid := [("unicode/utf8.acceptRanges", laid_unicode_utf8_acceptRanges), ("unicode/utf8.first", laid_unicode_utf8_first)], narrowed := true }
def FnBothColoursUptoSaid : Prop := fnBothColoursUptoRow.holds Tryz.pinned (OpenSpec.upto fnBothColoursSpec)

/-- 'laws.FnColourCounts', WHERE WHAT IT READS IS OF BULK AT MOST 1048576: true; the input reads as it did. -/
def fnColourCountsUptoRow : OpenClaim := { program := "ytglehegjimhbjaagreatdoor", sum := "691a17db0ea411b0835014cb836719a4033866c48a7a2a789c1a3b8138b50899", func := "loop.example/gamesonstructures/laws.FnColourCounts", spec := "fnColourCounts", inPlace := ["internal/bytealg.IndexByteString", "internal/bytealg.IndexString"], unfollowed := true, recurses := true, named := ["unicode/utf8.first", "unicode/utf8.acceptRanges", "internal/bytealg.MaxLen"], apart := false, laid := [("unicode/utf8.acceptRanges", laid_unicode_utf8_acceptRanges), ("unicode/utf8.first", laid_unicode_utf8_first)], narrowed := true }
def FnColourCountsUptoSaid : Prop := fnColourCountsUptoRow.holds Tryz.pinned (OpenSpec.upto fnColourCountsSpec)

/-- 'laws.FnColours', WHERE WHAT IT READS IS OF BULK AT MOST 1048576: true; the input reads as it did. -/
def fnColoursUptoRow : OpenClaim := { program := "ytglehegjimhbjaagreatdoor", sum := "691a17db0ea411b0835014cb836719a4033866c48a7a2a789c1a3b8138b50899", func := "loop.example/gamesonstructures/laws.FnColours", spec := "fnColours", inPlace := ["internal/bytealg.IndexByteString", "internal/bytealg.IndexString"], unfollowed := true, recurses := true, named := ["unicode/utf8.first", "unicode/utf8.acceptRanges", "internal/bytealg.MaxLen"], apart := false, laid := [("unicode/utf8.acceptRanges", laid_unicode_utf8_acceptRanges), ("unicode/utf8.first", laid_unicode_utf8_first)], narrowed := true }
def FnColoursUptoSaid : Prop := fnColoursUptoRow.holds Tryz.pinned (OpenSpec.upto fnColoursSpec)

/-- 'laws.FnSameColours', WHERE WHAT IT READS IS OF BULK AT MOST 1048576: true; the input reads as it did. -/
def fnSameColoursUptoRow : OpenClaim := { program := "ytglehegjimhbjaagreatdoor", sum := "691a17db0ea411b0835014cb836719a4033866c48a7a2a789c1a3b8138b50899", func := "loop.example/gamesonstructures/laws.FnSameColours", spec := "fnSameColours", inPlace := ["internal/bytealg.IndexByteString", "internal/bytealg.IndexString"], unfollowed := true, recurses := true, named := ["unicode/utf8.first", "unicode/utf8.acceptRanges", "internal/bytealg.MaxLen"], apart := false, laid := [("unicode/utf8.acceptRanges", laid_unicode_utf8_acceptRanges), ("unicode/utf8.first", laid_unicode_utf8_first)], narrowed := true }
def FnSameColoursUptoSaid : Prop := fnSameColoursUptoRow.holds Tryz.pinned (OpenSpec.upto fnSameColoursSpec)

/-- 'laws.FnSumColours', WHERE WHAT IT READS IS OF BULK AT MOST 1048576: true; the input reads as it did. -/
def fnSumColoursUptoRow : OpenClaim := { program := "ytglehegjimhbjaagreatdoor", sum := "691a17db0ea411b0835014cb836719a4033866c48a7a2a789c1a3b8138b50899", func := "loop.example/gamesonstructures/laws.FnSumColours", spec := "fnSumColours", inPlace := ["internal/bytealg.IndexByteString", "internal/bytealg.IndexString"], unfollowed := true, recurses := true, named := ["unicode/utf8.first", "unicode/utf8.acceptRanges", "internal/bytealg.MaxLen"], apart := false, laid := [("unicode/utf8.acceptRanges", laid_unicode_utf8_acceptRanges), ("unicode/utf8.first", laid_unicode_utf8_first)], narrowed := true }
def FnSumColoursUptoSaid : Prop := fnSumColoursUptoRow.holds Tryz.pinned (OpenSpec.upto fnSumColoursSpec)

end Rows
end Go.Proofs.YtglehegjimhbjaaGreatDoor
