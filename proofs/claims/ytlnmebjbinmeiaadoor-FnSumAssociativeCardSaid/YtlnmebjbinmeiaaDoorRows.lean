/-
  NARROWER THAN 'FOR EVERY INPUT', by the rows' own cells (each row's printed sentence says how): FnExactCopiesOf: laid · FnExactPiecesOf: laid · FnExactBallOf: laid · FnExactSameBall: laid · FnExactSameBalls: laid · FnExactBallClasses: laid · FnSumAssociative: laid · FnProductOf: laid · FnDistanceOf: laid · FnNearOf: laid · FnPieces: laid · FnBallOf: laid.
  DERIVED. THE GIVEN ROWS OF THIS SEAT. 12 by the template 'for every input the law returns true; each argument reads behind the call as it read before'; 0 by the template 'total and deterministic' (their statements: YtlnmebjbinmeiaaDoorTotals.lean).
  GIVEN WITH THE SEED: the statements are not yours to turn. If you find one false, say at which input.
  Laid BY PROGRAM, IN A SANDBOX (cutbox-rows.mjs): the forced cells as the released guide's own fill.sh prints them over the translation 25b4801c1ebe3de7… (all of the seat's roots in one cut). By AI agents, Wed Nov 11 2026. No macro, syntax, notation, axiom, sorry.
-/
import Derived.Test.YtlnmebjbinmeiaaDoorChecked
import GoSem.PinnedTables
import GoSem.Claim
import GoSem.ClaimJoined
import GoSem.ClaimMapViews
import Derived.JoinedTies
import Derived.KernelRfl
namespace Go.Proofs.YtlnmebjbinmeiaaDoor
/- THE CELL 'sum', in the pinned program and in every row, IS THE sha256 OF THE DUMP (.gsa) THAT YtlnmebjbinmeiaaDoorProg.lean LOADS. Nothing in Lean hashes anything: it is a label: what it is worth is what the hold of that sum in a sandbox is worth. -/
noncomputable def Tryd.pinned : Pinned := { name := "ytlnmebjbinmeiaadoor", sum := "25b4801c1ebe3de74851483b84110d581d1180cf0d10e95cf40bd31d4aaf643a", checked := Tryd.checked }
namespace Rows
def none {H : Type} : Left H := { results := [], args := [] }

/- WHAT THE LISTED PACKAGE-LEVEL VARIABLES READ AS WHEN THE CALL BEGINS. Each datum BY PROGRAM (the guide's laid-datum.mjs) off the statement by which the dump's own 'gosem.cut.vars' lays the variable. In a bare row this is a premise. The card (YtlnmebjbinmeiaaDoorCards.lean) ties it to the program's text. -/
def laid_unicode_utf8_acceptRanges {H : Type} : DataW H := .agg [.agg [.lit (.int .u8 128), .lit (.int .u8 191)], .agg [.lit (.int .u8 160), .lit (.int .u8 191)], .agg [.lit (.int .u8 128), .lit (.int .u8 159)], .agg [.lit (.int .u8 144), .lit (.int .u8 191)], .agg [.lit (.int .u8 128), .lit (.int .u8 143)], .agg [.lit (.int .u8 0), .lit (.int .u8 0)], .agg [.lit (.int .u8 0), .lit (.int .u8 0)], .agg [.lit (.int .u8 0), .lit (.int .u8 0)], .agg [.lit (.int .u8 0), .lit (.int .u8 0)], .agg [.lit (.int .u8 0), .lit (.int .u8 0)], .agg [.lit (.int .u8 0), .lit (.int .u8 0)], .agg [.lit (.int .u8 0), .lit (.int .u8 0)], .agg [.lit (.int .u8 0), .lit (.int .u8 0)], .agg [.lit (.int .u8 0), .lit (.int .u8 0)], .agg [.lit (.int .u8 0), .lit (.int .u8 0)], .agg [.lit (.int .u8 0), .lit (.int .u8 0)]]
/-- One of Go's own tables, pinned by name: the form's constant. -/
def laid_unicode_utf8_first : DataW Unit := Go.Pinned.utf8First

/-- 'laws.FnExactCopiesOf': WHATEVER THE INPUT: true; the input reads as it did. -/
def fnExactCopiesOfSpec : ChangeSpec := { name := "fnExactCopiesOf", fn := fun _ => fun
  | [d1, d2] => { results := [.lit (.bool true)], args := [d1, d2] }
  | _ => none }
def fnExactCopiesOfRow : OpenClaim := { program := "ytlnmebjbinmeiaadoor", sum := "25b4801c1ebe3de74851483b84110d581d1180cf0d10e95cf40bd31d4aaf643a", func := "loop.example/gamesonstructures/laws.FnExactCopiesOf", spec := "fnExactCopiesOf", inPlace := ["internal/bytealg.IndexByteString", "internal/bytealg.IndexString"], unfollowed := true, recurses := true, named := ["unicode/utf8.first", "unicode/utf8.acceptRanges", "internal/bytealg.MaxLen"], apart := false, laid := [("unicode/utf8.acceptRanges", laid_unicode_utf8_acceptRanges), ("unicode/utf8.first", laid_unicode_utf8_first)] }
def FnExactCopiesOfSaid : Prop := fnExactCopiesOfRow.holds Tryd.pinned (OpenSpec.ofChange fnExactCopiesOfSpec)

/-- ITS FALSE NEIGHBOUR: 'it returns false'. Refute it at one input. -/
def fnExactCopiesOfWrong : ChangeSpec := { name := "fnExactCopiesOf", fn := fun _ => fun
  | [d1, d2] => { results := [.lit (.bool false)], args := [d1, d2] }
  | _ => none }
def FnExactCopiesOfWrongFalsely : Prop := fnExactCopiesOfRow.holds Tryd.pinned (OpenSpec.ofChange fnExactCopiesOfWrong)

/-- 'laws.FnExactPiecesOf': WHATEVER THE INPUT: true; the input reads as it did. -/
def fnExactPiecesOfSpec : ChangeSpec := { name := "fnExactPiecesOf", fn := fun _ => fun
  | [d] => { results := [.lit (.bool true)], args := [d] }
  | _ => none }
def fnExactPiecesOfRow : OpenClaim := { program := "ytlnmebjbinmeiaadoor", sum := "25b4801c1ebe3de74851483b84110d581d1180cf0d10e95cf40bd31d4aaf643a", func := "loop.example/gamesonstructures/laws.FnExactPiecesOf", spec := "fnExactPiecesOf", inPlace := ["internal/bytealg.IndexByteString", "internal/bytealg.IndexString"], unfollowed := true, recurses := true, named := ["unicode/utf8.first", "unicode/utf8.acceptRanges", "internal/bytealg.MaxLen"], apart := false, laid := [("unicode/utf8.acceptRanges", laid_unicode_utf8_acceptRanges), ("unicode/utf8.first", laid_unicode_utf8_first)] }
def FnExactPiecesOfSaid : Prop := fnExactPiecesOfRow.holds Tryd.pinned (OpenSpec.ofChange fnExactPiecesOfSpec)

/-- ITS FALSE NEIGHBOUR: 'it returns false'. Refute it at one input. -/
def fnExactPiecesOfWrong : ChangeSpec := { name := "fnExactPiecesOf", fn := fun _ => fun
  | [d] => { results := [.lit (.bool false)], args := [d] }
  | _ => none }
def FnExactPiecesOfWrongFalsely : Prop := fnExactPiecesOfRow.holds Tryd.pinned (OpenSpec.ofChange fnExactPiecesOfWrong)

/-- 'laws.FnExactBallOf': WHATEVER THE INPUT: true; the input reads as it did. -/
def fnExactBallOfSpec : ChangeSpec := { name := "fnExactBallOf", fn := fun _ => fun
  | [d1, d2, d3] => { results := [.lit (.bool true)], args := [d1, d2, d3] }
  | _ => none }
def fnExactBallOfRow : OpenClaim := { program := "ytlnmebjbinmeiaadoor", sum := "25b4801c1ebe3de74851483b84110d581d1180cf0d10e95cf40bd31d4aaf643a", func := "loop.example/gamesonstructures/laws.FnExactBallOf", spec := "fnExactBallOf", inPlace := ["internal/bytealg.IndexByteString", "internal/bytealg.IndexString"], named := ["unicode/utf8.first", "unicode/utf8.acceptRanges", "internal/bytealg.MaxLen"], apart := false, laid := [("unicode/utf8.acceptRanges", laid_unicode_utf8_acceptRanges), ("unicode/utf8.first", laid_unicode_utf8_first)] }
def FnExactBallOfSaid : Prop := fnExactBallOfRow.holds Tryd.pinned (OpenSpec.ofChange fnExactBallOfSpec)

/-- ITS FALSE NEIGHBOUR: 'it returns false'. Refute it at one input. -/
def fnExactBallOfWrong : ChangeSpec := { name := "fnExactBallOf", fn := fun _ => fun
  | [d1, d2, d3] => { results := [.lit (.bool false)], args := [d1, d2, d3] }
  | _ => none }
def FnExactBallOfWrongFalsely : Prop := fnExactBallOfRow.holds Tryd.pinned (OpenSpec.ofChange fnExactBallOfWrong)

/-- 'laws.FnExactSameBall': WHATEVER THE INPUT: true; the input reads as it did. -/
def fnExactSameBallSpec : ChangeSpec := { name := "fnExactSameBall", fn := fun _ => fun
  | [d1, d2, d3, d4, d5] => { results := [.lit (.bool true)], args := [d1, d2, d3, d4, d5] }
  | _ => none }
def fnExactSameBallRow : OpenClaim := { program := "ytlnmebjbinmeiaadoor", sum := "25b4801c1ebe3de74851483b84110d581d1180cf0d10e95cf40bd31d4aaf643a", func := "loop.example/gamesonstructures/laws.FnExactSameBall", spec := "fnExactSameBall", inPlace := ["internal/bytealg.IndexByteString", "internal/bytealg.IndexString"], unfollowed := true, recurses := true, named := ["unicode/utf8.first", "unicode/utf8.acceptRanges", "internal/bytealg.MaxLen"], apart := false, laid := [("unicode/utf8.acceptRanges", laid_unicode_utf8_acceptRanges), ("unicode/utf8.first", laid_unicode_utf8_first)] }
def FnExactSameBallSaid : Prop := fnExactSameBallRow.holds Tryd.pinned (OpenSpec.ofChange fnExactSameBallSpec)

/-- ITS FALSE NEIGHBOUR: 'it returns false'. Refute it at one input. -/
def fnExactSameBallWrong : ChangeSpec := { name := "fnExactSameBall", fn := fun _ => fun
  | [d1, d2, d3, d4, d5] => { results := [.lit (.bool false)], args := [d1, d2, d3, d4, d5] }
  | _ => none }
def FnExactSameBallWrongFalsely : Prop := fnExactSameBallRow.holds Tryd.pinned (OpenSpec.ofChange fnExactSameBallWrong)

/-- 'laws.FnExactSameBalls': WHATEVER THE INPUT: true; the input reads as it did. -/
def fnExactSameBallsSpec : ChangeSpec := { name := "fnExactSameBalls", fn := fun _ => fun
  | [d1, d2, d3] => { results := [.lit (.bool true)], args := [d1, d2, d3] }
  | _ => none }
def fnExactSameBallsRow : OpenClaim := { program := "ytlnmebjbinmeiaadoor", sum := "25b4801c1ebe3de74851483b84110d581d1180cf0d10e95cf40bd31d4aaf643a", func := "loop.example/gamesonstructures/laws.FnExactSameBalls", spec := "fnExactSameBalls", inPlace := ["internal/bytealg.IndexByteString", "internal/bytealg.IndexString"], unfollowed := true, recurses := true, named := ["unicode/utf8.first", "unicode/utf8.acceptRanges", "internal/bytealg.MaxLen"], apart := false, laid := [("unicode/utf8.acceptRanges", laid_unicode_utf8_acceptRanges), ("unicode/utf8.first", laid_unicode_utf8_first)] }
def FnExactSameBallsSaid : Prop := fnExactSameBallsRow.holds Tryd.pinned (OpenSpec.ofChange fnExactSameBallsSpec)

/-- ITS FALSE NEIGHBOUR: 'it returns false'. Refute it at one input. -/
def fnExactSameBallsWrong : ChangeSpec := { name := "fnExactSameBalls", fn := fun _ => fun
  | [d1, d2, d3] => { results := [.lit (.bool false)], args := [d1, d2, d3] }
  | _ => none }
def FnExactSameBallsWrongFalsely : Prop := fnExactSameBallsRow.holds Tryd.pinned (OpenSpec.ofChange fnExactSameBallsWrong)

/-- 'laws.FnExactBallClasses': WHATEVER THE INPUT: true; the input reads as it did. -/
def fnExactBallClassesSpec : ChangeSpec := { name := "fnExactBallClasses", fn := fun _ => fun
  | [d1, d2] => { results := [.lit (.bool true)], args := [d1, d2] }
  | _ => none }
def fnExactBallClassesRow : OpenClaim := { program := "ytlnmebjbinmeiaadoor", sum := "25b4801c1ebe3de74851483b84110d581d1180cf0d10e95cf40bd31d4aaf643a", func := "loop.example/gamesonstructures/laws.FnExactBallClasses", spec := "fnExactBallClasses", inPlace := ["internal/bytealg.IndexByteString", "internal/bytealg.IndexString"], unfollowed := true, recurses := true, named := ["unicode/utf8.first", "unicode/utf8.acceptRanges", "internal/bytealg.MaxLen"], apart := false, laid := [("unicode/utf8.acceptRanges", laid_unicode_utf8_acceptRanges), ("unicode/utf8.first", laid_unicode_utf8_first)] }
def FnExactBallClassesSaid : Prop := fnExactBallClassesRow.holds Tryd.pinned (OpenSpec.ofChange fnExactBallClassesSpec)

/-- ITS FALSE NEIGHBOUR: 'it returns false'. Refute it at one input. -/
def fnExactBallClassesWrong : ChangeSpec := { name := "fnExactBallClasses", fn := fun _ => fun
  | [d1, d2] => { results := [.lit (.bool false)], args := [d1, d2] }
  | _ => none }
def FnExactBallClassesWrongFalsely : Prop := fnExactBallClassesRow.holds Tryd.pinned (OpenSpec.ofChange fnExactBallClassesWrong)

/-- 'laws.FnSumAssociative': WHATEVER THE INPUT: true; the input reads as it did. -/
def fnSumAssociativeSpec : ChangeSpec := { name := "fnSumAssociative", fn := fun _ => fun
  | [d1, d2] => { results := [.lit (.bool true)], args := [d1, d2] }
  | _ => none }
def fnSumAssociativeRow : OpenClaim := { program := "ytlnmebjbinmeiaadoor", sum := "25b4801c1ebe3de74851483b84110d581d1180cf0d10e95cf40bd31d4aaf643a", func := "loop.example/gamesonstructures/laws.FnSumAssociative", spec := "fnSumAssociative", inPlace := ["internal/bytealg.IndexByteString", "internal/bytealg.IndexString"], unfollowed := true, recurses := true, named := ["unicode/utf8.first", "unicode/utf8.acceptRanges", "internal/bytealg.MaxLen"], apart := false, laid := [("unicode/utf8.acceptRanges", laid_unicode_utf8_acceptRanges), ("unicode/utf8.first", laid_unicode_utf8_first)] }
def FnSumAssociativeSaid : Prop := fnSumAssociativeRow.holds Tryd.pinned (OpenSpec.ofChange fnSumAssociativeSpec)

/-- ITS FALSE NEIGHBOUR: 'it returns false'. Refute it at one input. -/
def fnSumAssociativeWrong : ChangeSpec := { name := "fnSumAssociative", fn := fun _ => fun
  | [d1, d2] => { results := [.lit (.bool false)], args := [d1, d2] }
  | _ => none }
def FnSumAssociativeWrongFalsely : Prop := fnSumAssociativeRow.holds Tryd.pinned (OpenSpec.ofChange fnSumAssociativeWrong)

/-- 'laws.FnProductOf': WHATEVER THE INPUT: true; the input reads as it did. -/
def fnProductOfSpec : ChangeSpec := { name := "fnProductOf", fn := fun _ => fun
  | [d] => { results := [.lit (.bool true)], args := [d] }
  | _ => none }
def fnProductOfRow : OpenClaim := { program := "ytlnmebjbinmeiaadoor", sum := "25b4801c1ebe3de74851483b84110d581d1180cf0d10e95cf40bd31d4aaf643a", func := "loop.example/gamesonstructures/laws.FnProductOf", spec := "fnProductOf", inPlace := ["internal/bytealg.IndexByteString", "internal/bytealg.IndexString"], unfollowed := true, recurses := true, named := ["unicode/utf8.first", "unicode/utf8.acceptRanges", "internal/bytealg.MaxLen"], apart := false, laid := [("unicode/utf8.acceptRanges", laid_unicode_utf8_acceptRanges), ("unicode/utf8.first", laid_unicode_utf8_first)] }
def FnProductOfSaid : Prop := fnProductOfRow.holds Tryd.pinned (OpenSpec.ofChange fnProductOfSpec)

/-- ITS FALSE NEIGHBOUR: 'it returns false'. Refute it at one input. -/
def fnProductOfWrong : ChangeSpec := { name := "fnProductOf", fn := fun _ => fun
  | [d] => { results := [.lit (.bool false)], args := [d] }
  | _ => none }
def FnProductOfWrongFalsely : Prop := fnProductOfRow.holds Tryd.pinned (OpenSpec.ofChange fnProductOfWrong)

/-- 'laws.FnDistanceOf': WHATEVER THE INPUT: true; the input reads as it did. -/
def fnDistanceOfSpec : ChangeSpec := { name := "fnDistanceOf", fn := fun _ => fun
  | [d1, d2] => { results := [.lit (.bool true)], args := [d1, d2] }
  | _ => none }
def fnDistanceOfRow : OpenClaim := { program := "ytlnmebjbinmeiaadoor", sum := "25b4801c1ebe3de74851483b84110d581d1180cf0d10e95cf40bd31d4aaf643a", func := "loop.example/gamesonstructures/laws.FnDistanceOf", spec := "fnDistanceOf", inPlace := ["internal/bytealg.IndexByteString", "internal/bytealg.IndexString"], unfollowed := true, recurses := true, named := ["unicode/utf8.first", "unicode/utf8.acceptRanges", "internal/bytealg.MaxLen"], apart := false, laid := [("unicode/utf8.acceptRanges", laid_unicode_utf8_acceptRanges), ("unicode/utf8.first", laid_unicode_utf8_first)] }
def FnDistanceOfSaid : Prop := fnDistanceOfRow.holds Tryd.pinned (OpenSpec.ofChange fnDistanceOfSpec)

/-- ITS FALSE NEIGHBOUR: 'it returns false'. Refute it at one input. -/
def fnDistanceOfWrong : ChangeSpec := { name := "fnDistanceOf", fn := fun _ => fun
  | [d1, d2] => { results := [.lit (.bool false)], args := [d1, d2] }
  | _ => none }
def FnDistanceOfWrongFalsely : Prop := fnDistanceOfRow.holds Tryd.pinned (OpenSpec.ofChange fnDistanceOfWrong)

/-- 'laws.FnNearOf': WHATEVER THE INPUT: true; the input reads as it did. -/
def fnNearOfSpec : ChangeSpec := { name := "fnNearOf", fn := fun _ => fun
  | [d] => { results := [.lit (.bool true)], args := [d] }
  | _ => none }
def fnNearOfRow : OpenClaim := { program := "ytlnmebjbinmeiaadoor", sum := "25b4801c1ebe3de74851483b84110d581d1180cf0d10e95cf40bd31d4aaf643a", func := "loop.example/gamesonstructures/laws.FnNearOf", spec := "fnNearOf", inPlace := ["internal/bytealg.IndexByteString", "internal/bytealg.IndexString"], unfollowed := true, recurses := true, named := ["unicode/utf8.first", "unicode/utf8.acceptRanges", "internal/bytealg.MaxLen"], apart := false, laid := [("unicode/utf8.acceptRanges", laid_unicode_utf8_acceptRanges), ("unicode/utf8.first", laid_unicode_utf8_first)] }
def FnNearOfSaid : Prop := fnNearOfRow.holds Tryd.pinned (OpenSpec.ofChange fnNearOfSpec)

/-- ITS FALSE NEIGHBOUR: 'it returns false'. Refute it at one input. -/
def fnNearOfWrong : ChangeSpec := { name := "fnNearOf", fn := fun _ => fun
  | [d] => { results := [.lit (.bool false)], args := [d] }
  | _ => none }
def FnNearOfWrongFalsely : Prop := fnNearOfRow.holds Tryd.pinned (OpenSpec.ofChange fnNearOfWrong)

/-- 'laws.FnPieces': WHATEVER THE INPUT: true; the input reads as it did. -/
def fnPiecesSpec : ChangeSpec := { name := "fnPieces", fn := fun _ => fun
  | [d] => { results := [.lit (.bool true)], args := [d] }
  | _ => none }
def fnPiecesRow : OpenClaim := { program := "ytlnmebjbinmeiaadoor", sum := "25b4801c1ebe3de74851483b84110d581d1180cf0d10e95cf40bd31d4aaf643a", func := "loop.example/gamesonstructures/laws.FnPieces", spec := "fnPieces", inPlace := ["internal/bytealg.IndexByteString", "internal/bytealg.IndexString"], unfollowed := true, recurses := true, named := ["unicode/utf8.first", "unicode/utf8.acceptRanges", "internal/bytealg.MaxLen"], apart := false, laid := [("unicode/utf8.acceptRanges", laid_unicode_utf8_acceptRanges), ("unicode/utf8.first", laid_unicode_utf8_first)] }
def FnPiecesSaid : Prop := fnPiecesRow.holds Tryd.pinned (OpenSpec.ofChange fnPiecesSpec)

/-- ITS FALSE NEIGHBOUR: 'it returns false'. Refute it at one input. -/
def fnPiecesWrong : ChangeSpec := { name := "fnPieces", fn := fun _ => fun
  | [d] => { results := [.lit (.bool false)], args := [d] }
  | _ => none }
def FnPiecesWrongFalsely : Prop := fnPiecesRow.holds Tryd.pinned (OpenSpec.ofChange fnPiecesWrong)

/-- 'laws.FnBallOf': WHATEVER THE INPUT: true; the input reads as it did. -/
def fnBallOfSpec : ChangeSpec := { name := "fnBallOf", fn := fun _ => fun
  | [d] => { results := [.lit (.bool true)], args := [d] }
  | _ => none }
def fnBallOfRow : OpenClaim := { program := "ytlnmebjbinmeiaadoor", sum := "25b4801c1ebe3de74851483b84110d581d1180cf0d10e95cf40bd31d4aaf643a", func := "loop.example/gamesonstructures/laws.FnBallOf", spec := "fnBallOf", inPlace := ["internal/bytealg.IndexByteString", "internal/bytealg.IndexString"], named := ["unicode/utf8.first", "unicode/utf8.acceptRanges", "internal/bytealg.MaxLen"], apart := false, laid := [("unicode/utf8.acceptRanges", laid_unicode_utf8_acceptRanges), ("unicode/utf8.first", laid_unicode_utf8_first)] }
def FnBallOfSaid : Prop := fnBallOfRow.holds Tryd.pinned (OpenSpec.ofChange fnBallOfSpec)

/-- ITS FALSE NEIGHBOUR: 'it returns false'. Refute it at one input. -/
def fnBallOfWrong : ChangeSpec := { name := "fnBallOf", fn := fun _ => fun
  | [d] => { results := [.lit (.bool false)], args := [d] }
  | _ => none }
def FnBallOfWrongFalsely : Prop := fnBallOfRow.holds Tryd.pinned (OpenSpec.ofChange fnBallOfWrong)

/- THE SECOND FORM. 'bulk': how many values and letters a reading holds, each counted each time it is reached (what is shared counts as often as it is met; a slice's spare places count too). A statement '..UptoSaid' is the law's where the arguments, and the package variables that the reading takes, are together of bulk at most 1048576: NARROWER than '..Said'. Prove '..Said' where nothing that the law and all that it calls make is longer than what came in: it says more and counts as full. Else prove '..UptoSaid'. A law counts once. -/
mutual
def uptoBulk {H : Type} : DataW H → Nat
  | .lit (.string bytes) => bytes.length + 1
  | .lit _ => 1
  | .nil => 1
  | .ptr d => uptoBulk d + 1
  | .slice elems spare => uptoBulkAll elems + uptoBulkAll spare + 1
  | .agg parts => uptoBulkAll parts + 1
  | .iface _ d => uptoBulk d + 1
  | .map entries => uptoBulkEntries entries + 1
  | .held _ => 1
def uptoBulkAll {H : Type} : List (DataW H) → Nat
  | [] => 0
  | d :: r => uptoBulk d + uptoBulkAll r
def uptoBulkEntries {H : Type} : List (Lit × DataW H) → Nat
  | [] => 0
  | x :: r => uptoBulkEntry x + uptoBulkEntries r
def uptoBulkEntry {H : Type} : Lit × DataW H → Nat
  | (.string bytes, d) => bytes.length + uptoBulk d + 1
  | (_, d) => uptoBulk d + 1
 end
def uptoSmall : (H : Type) → List (DataW H) → Bool := fun _ ds => decide (uptoBulkAll ds ≤ 1048576)
def OpenSpec.upto (s : _root_.Go.ChangeSpec) : _root_.Go.OpenSpec := { _root_.Go.OpenSpec.ofChange s with cond := some uptoSmall }

/-- 'laws.FnExactCopiesOf', WHERE WHAT IT READS IS OF BULK AT MOST 1048576: true; the input reads as it did. -/
def fnExactCopiesOfUptoRow : OpenClaim := { program := "ytlnmebjbinmeiaadoor", sum := "25b4801c1ebe3de74851483b84110d581d1180cf0d10e95cf40bd31d4aaf643a", func := "loop.example/gamesonstructures/laws.FnExactCopiesOf", spec := "fnExactCopiesOf", inPlace := ["internal/bytealg.IndexByteString", "internal/bytealg.IndexString"], unfollowed := true, recurses := true, named := ["unicode/utf8.first", "unicode/utf8.acceptRanges", "internal/bytealg.MaxLen"], apart := false, laid := [("unicode/utf8.acceptRanges", laid_unicode_utf8_acceptRanges), ("unicode/utf8.first", laid_unicode_utf8_first)], narrowed := true }
def FnExactCopiesOfUptoSaid : Prop := fnExactCopiesOfUptoRow.holds Tryd.pinned (OpenSpec.upto fnExactCopiesOfSpec)

/-- 'laws.FnExactPiecesOf', WHERE WHAT IT READS IS OF BULK AT MOST 1048576: true; the input reads as it did. -/
def fnExactPiecesOfUptoRow : OpenClaim := { program := "ytlnmebjbinmeiaadoor", sum := "25b4801c1ebe3de74851483b84110d581d1180cf0d10e95cf40bd31d4aaf643a", func := "loop.example/gamesonstructures/laws.FnExactPiecesOf", spec := "fnExactPiecesOf", inPlace := ["internal/bytealg.IndexByteString", "internal/bytealg.IndexString"], unfollowed := true, recurses := true, named := ["unicode/utf8.first", "unicode/utf8.acceptRanges", "internal/bytealg.MaxLen"], apart := false, laid := [("unicode/utf8.acceptRanges", laid_unicode_utf8_acceptRanges), ("unicode/utf8.first", laid_unicode_utf8_first)], narrowed := true }
def FnExactPiecesOfUptoSaid : Prop := fnExactPiecesOfUptoRow.holds Tryd.pinned (OpenSpec.upto fnExactPiecesOfSpec)

/-- 'laws.FnExactBallOf', WHERE WHAT IT READS IS OF BULK AT MOST 1048576: true; the input reads as it did. -/
def fnExactBallOfUptoRow : OpenClaim := { program := "ytlnmebjbinmeiaadoor", sum := "25b4801c1ebe3de74851483b84110d581d1180cf0d10e95cf40bd31d4aaf643a", func := "loop.example/gamesonstructures/laws.FnExactBallOf", spec := "fnExactBallOf", inPlace := ["internal/bytealg.IndexByteString", "internal/bytealg.IndexString"], named := ["unicode/utf8.first", "unicode/utf8.acceptRanges", "internal/bytealg.MaxLen"], apart := false, laid := [("unicode/utf8.acceptRanges", laid_unicode_utf8_acceptRanges), ("unicode/utf8.first", laid_unicode_utf8_first)], narrowed := true }
def FnExactBallOfUptoSaid : Prop := fnExactBallOfUptoRow.holds Tryd.pinned (OpenSpec.upto fnExactBallOfSpec)

/-- 'laws.FnExactSameBall', WHERE WHAT IT READS IS OF BULK AT MOST 1048576: true; the input reads as it did. -/
def fnExactSameBallUptoRow : OpenClaim := { program := "ytlnmebjbinmeiaadoor", sum := "25b4801c1ebe3de74851483b84110d581d1180cf0d10e95cf40bd31d4aaf643a", func := "loop.example/gamesonstructures/laws.FnExactSameBall", spec := "fnExactSameBall", inPlace := ["internal/bytealg.IndexByteString", "internal/bytealg.IndexString"], unfollowed := true, recurses := true, named := ["unicode/utf8.first", "unicode/utf8.acceptRanges", "internal/bytealg.MaxLen"], apart := false, laid := [("unicode/utf8.acceptRanges", laid_unicode_utf8_acceptRanges), ("unicode/utf8.first", laid_unicode_utf8_first)], narrowed := true }
def FnExactSameBallUptoSaid : Prop := fnExactSameBallUptoRow.holds Tryd.pinned (OpenSpec.upto fnExactSameBallSpec)

/-- 'laws.FnExactSameBalls', WHERE WHAT IT READS IS OF BULK AT MOST 1048576: true; the input reads as it did. -/
def fnExactSameBallsUptoRow : OpenClaim := { program := "ytlnmebjbinmeiaadoor", sum := "25b4801c1ebe3de74851483b84110d581d1180cf0d10e95cf40bd31d4aaf643a", func := "loop.example/gamesonstructures/laws.FnExactSameBalls", spec := "fnExactSameBalls", inPlace := ["internal/bytealg.IndexByteString", "internal/bytealg.IndexString"], unfollowed := true, recurses := true, named := ["unicode/utf8.first", "unicode/utf8.acceptRanges", "internal/bytealg.MaxLen"], apart := false, laid := [("unicode/utf8.acceptRanges", laid_unicode_utf8_acceptRanges), ("unicode/utf8.first", laid_unicode_utf8_first)], narrowed := true }
def FnExactSameBallsUptoSaid : Prop := fnExactSameBallsUptoRow.holds Tryd.pinned (OpenSpec.upto fnExactSameBallsSpec)

/-- 'laws.FnExactBallClasses', WHERE WHAT IT READS IS OF BULK AT MOST 1048576: true; the input reads as it did. -/
def fnExactBallClassesUptoRow : OpenClaim := { program := "ytlnmebjbinmeiaadoor", sum := "25b4801c1ebe3de74851483b84110d581d1180cf0d10e95cf40bd31d4aaf643a", func := "loop.example/gamesonstructures/laws.FnExactBallClasses", spec := "fnExactBallClasses", inPlace := ["internal/bytealg.IndexByteString", "internal/bytealg.IndexString"], unfollowed := true, recurses := true, named := ["unicode/utf8.first", "unicode/utf8.acceptRanges", "internal/bytealg.MaxLen"], apart := false, laid := [("unicode/utf8.acceptRanges", laid_unicode_utf8_acceptRanges), ("unicode/utf8.first", laid_unicode_utf8_first)], narrowed := true }
def FnExactBallClassesUptoSaid : Prop := fnExactBallClassesUptoRow.holds Tryd.pinned (OpenSpec.upto fnExactBallClassesSpec)

/-- 'laws.FnSumAssociative', WHERE WHAT IT READS IS OF BULK AT MOST 1048576: true; the input reads as it did. -/
def fnSumAssociativeUptoRow : OpenClaim := { program := "ytlnmebjbinmeiaadoor", sum := "25b4801c1ebe3de74851483b84110d581d1180cf0d10e95cf40bd31d4aaf643a", func := "loop.example/gamesonstructures/laws.FnSumAssociative", spec := "fnSumAssociative", inPlace := ["internal/bytealg.IndexByteString", "internal/bytealg.IndexString"], unfollowed := true, recurses := true, named := ["unicode/utf8.first", "unicode/utf8.acceptRanges", "internal/bytealg.MaxLen"], apart := false, laid := [("unicode/utf8.acceptRanges", laid_unicode_utf8_acceptRanges), ("unicode/utf8.first", laid_unicode_utf8_first)], narrowed := true }
def FnSumAssociativeUptoSaid : Prop := fnSumAssociativeUptoRow.holds Tryd.pinned (OpenSpec.upto fnSumAssociativeSpec)

/-- 'laws.FnProductOf', WHERE WHAT IT READS IS OF BULK AT MOST 1048576: true; the input reads as it did. -/
def fnProductOfUptoRow : OpenClaim := { program := "ytlnmebjbinmeiaadoor", sum := "25b4801c1ebe3de74851483b84110d581d1180cf0d10e95cf40bd31d4aaf643a", func := "loop.example/gamesonstructures/laws.FnProductOf", spec := "fnProductOf", inPlace := ["internal/bytealg.IndexByteString", "internal/bytealg.IndexString"], unfollowed := true, recurses := true, named := ["unicode/utf8.first", "unicode/utf8.acceptRanges", "internal/bytealg.MaxLen"], apart := false, laid := [("unicode/utf8.acceptRanges", laid_unicode_utf8_acceptRanges), ("unicode/utf8.first", laid_unicode_utf8_first)], narrowed := true }
def FnProductOfUptoSaid : Prop := fnProductOfUptoRow.holds Tryd.pinned (OpenSpec.upto fnProductOfSpec)

/-- 'laws.FnDistanceOf', WHERE WHAT IT READS IS OF BULK AT MOST 1048576: true; the input reads as it did. -/
def fnDistanceOfUptoRow : OpenClaim := { program := "ytlnmebjbinmeiaadoor", sum := "25b4801c1ebe3de74851483b84110d581d1180cf0d10e95cf40bd31d4aaf643a", func := "loop.example/gamesonstructures/laws.FnDistanceOf", spec := "fnDistanceOf", inPlace := ["internal/bytealg.IndexByteString", "internal/bytealg.IndexString"], unfollowed := true, recurses := true, named := ["unicode/utf8.first", "unicode/utf8.acceptRanges", "internal/bytealg.MaxLen"], apart := false, laid := [("unicode/utf8.acceptRanges", laid_unicode_utf8_acceptRanges), ("unicode/utf8.first", laid_unicode_utf8_first)], narrowed := true }
def FnDistanceOfUptoSaid : Prop := fnDistanceOfUptoRow.holds Tryd.pinned (OpenSpec.upto fnDistanceOfSpec)

/-- 'laws.FnNearOf', WHERE WHAT IT READS IS OF BULK AT MOST 1048576: true; the input reads as it did. -/
def fnNearOfUptoRow : OpenClaim := { program := "ytlnmebjbinmeiaadoor", sum := "25b4801c1ebe3de74851483b84110d581d1180cf0d10e95cf40bd31d4aaf643a", func := "loop.example/gamesonstructures/laws.FnNearOf", spec := "fnNearOf", inPlace := ["internal/bytealg.IndexByteString", "internal/bytealg.IndexString"], unfollowed := true, recurses := true, named := ["unicode/utf8.first", "unicode/utf8.acceptRanges", "internal/bytealg.MaxLen"], apart := false, laid := [("unicode/utf8.acceptRanges", laid_unicode_utf8_acceptRanges), ("unicode/utf8.first", laid_unicode_utf8_first)], narrowed := true }
def FnNearOfUptoSaid : Prop := fnNearOfUptoRow.holds Tryd.pinned (OpenSpec.upto fnNearOfSpec)

/-- 'laws.FnPieces', WHERE WHAT IT READS IS OF BULK AT MOST 1048576: true; the input reads as it did. -/
def fnPiecesUptoRow : OpenClaim := { program := "ytlnmebjbinmeiaadoor", sum := "25b4801c1ebe3de74851483b84110d581d1180cf0d10e95cf40bd31d4aaf643a", func := "loop.example/gamesonstructures/laws.FnPieces", spec := "fnPieces", inPlace := ["internal/bytealg.IndexByteString", "internal/bytealg.IndexString"], unfollowed := true, recurses := true, named := ["unicode/utf8.first", "unicode/utf8.acceptRanges", "internal/bytealg.MaxLen"], apart := false, laid := [("unicode/utf8.acceptRanges", laid_unicode_utf8_acceptRanges), ("unicode/utf8.first", laid_unicode_utf8_first)], narrowed := true }
def FnPiecesUptoSaid : Prop := fnPiecesUptoRow.holds Tryd.pinned (OpenSpec.upto fnPiecesSpec)

/-- 'laws.FnBallOf', WHERE WHAT IT READS IS OF BULK AT MOST 1048576: true; the input reads as it did. -/
def fnBallOfUptoRow : OpenClaim := { program := "ytlnmebjbinmeiaadoor", sum := "25b4801c1ebe3de74851483b84110d581d1180cf0d10e95cf40bd31d4aaf643a", func := "loop.example/gamesonstructures/laws.FnBallOf", spec := "fnBallOf", inPlace := ["internal/bytealg.IndexByteString", "internal/bytealg.IndexString"], named := ["unicode/utf8.first", "unicode/utf8.acceptRanges", "internal/bytealg.MaxLen"], apart := false, laid := [("unicode/utf8.acceptRanges", laid_unicode_utf8_acceptRanges), ("unicode/utf8.first", laid_unicode_utf8_first)], narrowed := true }
def FnBallOfUptoSaid : Prop := fnBallOfUptoRow.holds Tryd.pinned (OpenSpec.upto fnBallOfSpec)

end Rows
end Go.Proofs.YtlnmebjbinmeiaaDoor
