/-
  NARROWER THAN 'FOR EVERY INPUT', by the rows' own cells (each row's printed sentence says how): FnSumGames: laid · FnSumLists: laid · FnCountingWins: laid · FnHanf: laid · FnCountingForever: laid · FnDistanceFormula: laid.
  DERIVED. THE GIVEN ROWS OF THIS SEAT. 6 by the template 'for every input the law returns true; each argument reads behind the call as it read before'; 0 by the template 'total and deterministic' (their statements: YtpcnoiigbmiejaaDoorTotals.lean).
  GIVEN WITH THE SEED: the statements are not yours to turn. If you find one false, say at which input.
  Laid BY PROGRAM, IN A SANDBOX (cutbox-rows.mjs): the forced cells as the released guide's own fill.sh prints them over the translation 5e763babc3dbe761… (all of the seat's roots in one cut). By AI agents, Wed Nov 11 2026. No macro, syntax, notation, axiom, sorry.
-/
import Derived.Test.YtpcnoiigbmiejaaDoorChecked
import GoSem.PinnedTables
import GoSem.Claim
import GoSem.ClaimJoined
import GoSem.ClaimMapViews
import Derived.JoinedTies
import Derived.KernelRfl
namespace Go.Proofs.YtpcnoiigbmiejaaDoor
/- THE CELL 'sum', in the pinned program and in every row, IS THE sha256 OF THE DUMP (.gsa) THAT YtpcnoiigbmiejaaDoorProg.lean LOADS. Nothing in Lean hashes anything: it is a label: what it is worth is what the hold of that sum in a sandbox is worth. -/
noncomputable def Tryd.pinned : Pinned := { name := "ytpcnoiigbmiejaadoor", sum := "5e763babc3dbe761336891e7eb38a9b3cac54881e9a557a05a14c82010f5f524", checked := Tryd.checked }
namespace Rows
def none {H : Type} : Left H := { results := [], args := [] }

/- WHAT THE LISTED PACKAGE-LEVEL VARIABLES READ AS WHEN THE CALL BEGINS. Each datum BY PROGRAM (the guide's laid-datum.mjs) off the statement by which the dump's own 'gosem.cut.vars' lays the variable. In a bare row this is a premise. The card (YtpcnoiigbmiejaaDoorCards.lean) ties it to the program's text. -/
def laid_unicode_utf8_acceptRanges {H : Type} : DataW H := .agg [.agg [.lit (.int .u8 128), .lit (.int .u8 191)], .agg [.lit (.int .u8 160), .lit (.int .u8 191)], .agg [.lit (.int .u8 128), .lit (.int .u8 159)], .agg [.lit (.int .u8 144), .lit (.int .u8 191)], .agg [.lit (.int .u8 128), .lit (.int .u8 143)], .agg [.lit (.int .u8 0), .lit (.int .u8 0)], .agg [.lit (.int .u8 0), .lit (.int .u8 0)], .agg [.lit (.int .u8 0), .lit (.int .u8 0)], .agg [.lit (.int .u8 0), .lit (.int .u8 0)], .agg [.lit (.int .u8 0), .lit (.int .u8 0)], .agg [.lit (.int .u8 0), .lit (.int .u8 0)], .agg [.lit (.int .u8 0), .lit (.int .u8 0)], .agg [.lit (.int .u8 0), .lit (.int .u8 0)], .agg [.lit (.int .u8 0), .lit (.int .u8 0)], .agg [.lit (.int .u8 0), .lit (.int .u8 0)], .agg [.lit (.int .u8 0), .lit (.int .u8 0)]]
/-- One of Go's own tables, pinned by name: the form's constant. -/
def laid_unicode_utf8_first : DataW Unit := Go.Pinned.utf8First

/-- 'laws.FnSumGames': WHATEVER THE INPUT: true; the input reads as it did. -/
def fnSumGamesSpec : ChangeSpec := { name := "fnSumGames", fn := fun _ => fun
  | [d1, d2] => { results := [.lit (.bool true)], args := [d1, d2] }
  | _ => none }
def fnSumGamesRow : OpenClaim := { program := "ytpcnoiigbmiejaadoor", sum := "5e763babc3dbe761336891e7eb38a9b3cac54881e9a557a05a14c82010f5f524", func := "loop.example/gamesonstructures/laws.FnSumGames", spec := "fnSumGames", inPlace := ["internal/bytealg.IndexByteString", "internal/bytealg.IndexString"], unfollowed := true, recurses := true, named := ["unicode/utf8.first", "unicode/utf8.acceptRanges", "internal/bytealg.MaxLen"], apart := false, laid := [("unicode/utf8.acceptRanges", laid_unicode_utf8_acceptRanges), ("unicode/utf8.first", laid_unicode_utf8_first)] }
def FnSumGamesSaid : Prop := fnSumGamesRow.holds Tryd.pinned (OpenSpec.ofChange fnSumGamesSpec)

/-- ITS FALSE NEIGHBOUR: 'it returns false'. Refute it at one input. -/
def fnSumGamesWrong : ChangeSpec := { name := "fnSumGames", fn := fun _ => fun
  | [d1, d2] => { results := [.lit (.bool false)], args := [d1, d2] }
  | _ => none }
def FnSumGamesWrongFalsely : Prop := fnSumGamesRow.holds Tryd.pinned (OpenSpec.ofChange fnSumGamesWrong)

/-- 'laws.FnSumLists': WHATEVER THE INPUT: true; the input reads as it did. -/
def fnSumListsSpec : ChangeSpec := { name := "fnSumLists", fn := fun _ => fun
  | [d1, d2] => { results := [.lit (.bool true)], args := [d1, d2] }
  | _ => none }
def fnSumListsRow : OpenClaim := { program := "ytpcnoiigbmiejaadoor", sum := "5e763babc3dbe761336891e7eb38a9b3cac54881e9a557a05a14c82010f5f524", func := "loop.example/gamesonstructures/laws.FnSumLists", spec := "fnSumLists", inPlace := ["internal/bytealg.IndexByteString", "internal/bytealg.IndexString"], unfollowed := true, recurses := true, named := ["unicode/utf8.first", "unicode/utf8.acceptRanges", "internal/bytealg.MaxLen"], apart := false, laid := [("unicode/utf8.acceptRanges", laid_unicode_utf8_acceptRanges), ("unicode/utf8.first", laid_unicode_utf8_first)] }
def FnSumListsSaid : Prop := fnSumListsRow.holds Tryd.pinned (OpenSpec.ofChange fnSumListsSpec)

/-- ITS FALSE NEIGHBOUR: 'it returns false'. Refute it at one input. -/
def fnSumListsWrong : ChangeSpec := { name := "fnSumLists", fn := fun _ => fun
  | [d1, d2] => { results := [.lit (.bool false)], args := [d1, d2] }
  | _ => none }
def FnSumListsWrongFalsely : Prop := fnSumListsRow.holds Tryd.pinned (OpenSpec.ofChange fnSumListsWrong)

/-- 'laws.FnCountingWins': WHATEVER THE INPUT: true; the input reads as it did. -/
def fnCountingWinsSpec : ChangeSpec := { name := "fnCountingWins", fn := fun _ => fun
  | [d] => { results := [.lit (.bool true)], args := [d] }
  | _ => none }
def fnCountingWinsRow : OpenClaim := { program := "ytpcnoiigbmiejaadoor", sum := "5e763babc3dbe761336891e7eb38a9b3cac54881e9a557a05a14c82010f5f524", func := "loop.example/gamesonstructures/laws.FnCountingWins", spec := "fnCountingWins", inPlace := ["internal/bytealg.IndexByteString", "internal/bytealg.IndexString"], unfollowed := true, recurses := true, named := ["unicode/utf8.first", "unicode/utf8.acceptRanges", "internal/bytealg.MaxLen"], apart := false, laid := [("unicode/utf8.acceptRanges", laid_unicode_utf8_acceptRanges), ("unicode/utf8.first", laid_unicode_utf8_first)] }
def FnCountingWinsSaid : Prop := fnCountingWinsRow.holds Tryd.pinned (OpenSpec.ofChange fnCountingWinsSpec)

/-- ITS FALSE NEIGHBOUR: 'it returns false'. Refute it at one input. -/
def fnCountingWinsWrong : ChangeSpec := { name := "fnCountingWins", fn := fun _ => fun
  | [d] => { results := [.lit (.bool false)], args := [d] }
  | _ => none }
def FnCountingWinsWrongFalsely : Prop := fnCountingWinsRow.holds Tryd.pinned (OpenSpec.ofChange fnCountingWinsWrong)

/-- 'laws.FnHanf': WHATEVER THE INPUT: true; the input reads as it did. -/
def fnHanfSpec : ChangeSpec := { name := "fnHanf", fn := fun _ => fun
  | [d] => { results := [.lit (.bool true)], args := [d] }
  | _ => none }
def fnHanfRow : OpenClaim := { program := "ytpcnoiigbmiejaadoor", sum := "5e763babc3dbe761336891e7eb38a9b3cac54881e9a557a05a14c82010f5f524", func := "loop.example/gamesonstructures/laws.FnHanf", spec := "fnHanf", inPlace := ["internal/bytealg.IndexByteString", "internal/bytealg.IndexString"], unfollowed := true, recurses := true, named := ["unicode/utf8.first", "unicode/utf8.acceptRanges", "internal/bytealg.MaxLen"], apart := false, laid := [("unicode/utf8.acceptRanges", laid_unicode_utf8_acceptRanges), ("unicode/utf8.first", laid_unicode_utf8_first)] }
def FnHanfSaid : Prop := fnHanfRow.holds Tryd.pinned (OpenSpec.ofChange fnHanfSpec)

/-- ITS FALSE NEIGHBOUR: 'it returns false'. Refute it at one input. -/
def fnHanfWrong : ChangeSpec := { name := "fnHanf", fn := fun _ => fun
  | [d] => { results := [.lit (.bool false)], args := [d] }
  | _ => none }
def FnHanfWrongFalsely : Prop := fnHanfRow.holds Tryd.pinned (OpenSpec.ofChange fnHanfWrong)

/-- 'laws.FnCountingForever': WHATEVER THE INPUT: true; the input reads as it did. -/
def fnCountingForeverSpec : ChangeSpec := { name := "fnCountingForever", fn := fun _ => fun
  | [d] => { results := [.lit (.bool true)], args := [d] }
  | _ => none }
def fnCountingForeverRow : OpenClaim := { program := "ytpcnoiigbmiejaadoor", sum := "5e763babc3dbe761336891e7eb38a9b3cac54881e9a557a05a14c82010f5f524", func := "loop.example/gamesonstructures/laws.FnCountingForever", spec := "fnCountingForever", inPlace := ["internal/bytealg.IndexByteString", "internal/bytealg.IndexString"], unfollowed := true, recurses := true, named := ["unicode/utf8.first", "unicode/utf8.acceptRanges", "internal/bytealg.MaxLen"], apart := false, laid := [("unicode/utf8.acceptRanges", laid_unicode_utf8_acceptRanges), ("unicode/utf8.first", laid_unicode_utf8_first)] }
def FnCountingForeverSaid : Prop := fnCountingForeverRow.holds Tryd.pinned (OpenSpec.ofChange fnCountingForeverSpec)

/-- ITS FALSE NEIGHBOUR: 'it returns false'. Refute it at one input. -/
def fnCountingForeverWrong : ChangeSpec := { name := "fnCountingForever", fn := fun _ => fun
  | [d] => { results := [.lit (.bool false)], args := [d] }
  | _ => none }
def FnCountingForeverWrongFalsely : Prop := fnCountingForeverRow.holds Tryd.pinned (OpenSpec.ofChange fnCountingForeverWrong)

/-- 'laws.FnDistanceFormula': WHATEVER THE INPUT: true; the input reads as it did. -/
def fnDistanceFormulaSpec : ChangeSpec := { name := "fnDistanceFormula", fn := fun _ => fun
  | [d1, d2] => { results := [.lit (.bool true)], args := [d1, d2] }
  | _ => none }
def fnDistanceFormulaRow : OpenClaim := { program := "ytpcnoiigbmiejaadoor", sum := "5e763babc3dbe761336891e7eb38a9b3cac54881e9a557a05a14c82010f5f524", func := "loop.example/gamesonstructures/laws.FnDistanceFormula", spec := "fnDistanceFormula", inPlace := ["internal/abi.NoEscape", "internal/bytealg.MakeNoZero", "internal/bytealg.IndexByteString", "internal/bytealg.IndexString"], unfollowed := true, recurses := true, named := ["unicode/utf8.first", "unicode/utf8.acceptRanges", "internal/bytealg.MaxLen"], apart := false, laid := [("unicode/utf8.acceptRanges", laid_unicode_utf8_acceptRanges), ("unicode/utf8.first", laid_unicode_utf8_first)] }
def FnDistanceFormulaSaid : Prop := fnDistanceFormulaRow.holds Tryd.pinned (OpenSpec.ofChange fnDistanceFormulaSpec)

/-- ITS FALSE NEIGHBOUR: 'it returns false'. Refute it at one input. -/
def fnDistanceFormulaWrong : ChangeSpec := { name := "fnDistanceFormula", fn := fun _ => fun
  | [d1, d2] => { results := [.lit (.bool false)], args := [d1, d2] }
  | _ => none }
def FnDistanceFormulaWrongFalsely : Prop := fnDistanceFormulaRow.holds Tryd.pinned (OpenSpec.ofChange fnDistanceFormulaWrong)

/- THE SECOND FORM. 'bulk': how many values and letters a reading holds, each counted each time it is reached (what is shared counts as often as it is met; a slice's spare places count too). A statement '..UptoSaid' is the law's where the arguments, and the package variables that the reading takes, are together of bulk at most 1048576: NARROWER than '..Said'. Prove '..Said' where nothing that the law and all that it calls make is longer than what came in: it says more and counts as full. Else prove '..UptoSaid'. A law counts once. -/
mutual
def uptoBulk {H : Type} : DataW H → Nat
  | .lit (.string bytes) => bytes.length + 1
  | .lit _ => 1
  | .nil => 1
  | .ptr d => uptoBulk d + 1
  | .slice elems spare => uptoBulkAll elems + uptoBulkAll spare + 1
  | .agg parts => uptoBulkAll parts + 1
  | .iface _ d => uptoBulk d + 1
  | .map entries => uptoBulkEntries entries + 1
  | .held _ => 1
def uptoBulkAll {H : Type} : List (DataW H) → Nat
  | [] => 0
  | d :: r => uptoBulk d + uptoBulkAll r
def uptoBulkEntries {H : Type} : List (Lit × DataW H) → Nat
  | [] => 0
  | x :: r => uptoBulkEntry x + uptoBulkEntries r
def uptoBulkEntry {H : Type} : Lit × DataW H → Nat
  | (.string bytes, d) => bytes.length + uptoBulk d + 1
  | (_, d) => uptoBulk d + 1
 end
def uptoSmall : (H : Type) → List (DataW H) → Bool := fun _ ds => decide (uptoBulkAll ds ≤ 1048576)
def OpenSpec.upto (s : _root_.Go.ChangeSpec) : _root_.Go.OpenSpec := { _root_.Go.OpenSpec.ofChange s with cond := some uptoSmall }

/-- 'laws.FnSumGames', WHERE WHAT IT READS IS OF BULK AT MOST 1048576: true; the input reads as it did. -/
def fnSumGamesUptoRow : OpenClaim := { program := "ytpcnoiigbmiejaadoor", sum := "5e763babc3dbe761336891e7eb38a9b3cac54881e9a557a05a14c82010f5f524", func := "loop.example/gamesonstructures/laws.FnSumGames", spec := "fnSumGames", inPlace := ["internal/bytealg.IndexByteString", "internal/bytealg.IndexString"], unfollowed := true, recurses := true, named := ["unicode/utf8.first", "unicode/utf8.acceptRanges", "internal/bytealg.MaxLen"], apart := false, laid := [("unicode/utf8.acceptRanges", laid_unicode_utf8_acceptRanges), ("unicode/utf8.first", laid_unicode_utf8_first)], narrowed := true }
def FnSumGamesUptoSaid : Prop := fnSumGamesUptoRow.holds Tryd.pinned (OpenSpec.upto fnSumGamesSpec)

/-- 'laws.FnSumLists', WHERE WHAT IT READS IS OF BULK AT MOST 1048576: true; the input reads as it did. -/
def fnSumListsUptoRow : OpenClaim := { program := "ytpcnoiigbmiejaadoor", sum := "5e763babc3dbe761336891e7eb38a9b3cac54881e9a557a05a14c82010f5f524", func := "loop.example/gamesonstructures/laws.FnSumLists", spec := "fnSumLists", inPlace := ["internal/bytealg.IndexByteString", "internal/bytealg.IndexString"], unfollowed := true, recurses := true, named := ["unicode/utf8.first", "unicode/utf8.acceptRanges", "internal/bytealg.MaxLen"], apart := false, laid := [("unicode/utf8.acceptRanges", laid_unicode_utf8_acceptRanges), ("unicode/utf8.first", laid_unicode_utf8_first)], narrowed := true }
def FnSumListsUptoSaid : Prop := fnSumListsUptoRow.holds Tryd.pinned (OpenSpec.upto fnSumListsSpec)

/-- 'laws.FnCountingWins', WHERE WHAT IT READS IS OF BULK AT MOST 1048576: true; the input reads as it did. -/
def fnCountingWinsUptoRow : OpenClaim := { program := "ytpcnoiigbmiejaadoor", sum := "5e763babc3dbe761336891e7eb38a9b3cac54881e9a557a05a14c82010f5f524", func := "loop.example/gamesonstructures/laws.FnCountingWins", spec := "fnCountingWins", inPlace := ["internal/bytealg.IndexByteString", "internal/bytealg.IndexString"], unfollowed := true, recurses := true, named := ["unicode/utf8.first", "unicode/utf8.acceptRanges", "internal/bytealg.MaxLen"], apart := false, laid := [("unicode/utf8.acceptRanges", laid_unicode_utf8_acceptRanges), ("unicode/utf8.first", laid_unicode_utf8_first)], narrowed := true }
def FnCountingWinsUptoSaid : Prop := fnCountingWinsUptoRow.holds Tryd.pinned (OpenSpec.upto fnCountingWinsSpec)

/-- 'laws.FnHanf', WHERE WHAT IT READS IS OF BULK AT MOST 1048576: true; the input reads as it did. -/
def fnHanfUptoRow : OpenClaim := { program := "ytpcnoiigbmiejaadoor", sum := "5e763babc3dbe761336891e7eb38a9b3cac54881e9a557a05a14c82010f5f524", func := "loop.example/gamesonstructures/laws.FnHanf", spec := "fnHanf", inPlace := ["internal/bytealg.IndexByteString", "internal/bytealg.IndexString"], unfollowed := true, recurses := true, named := ["unicode/utf8.first", "unicode/utf8.acceptRanges", "internal/bytealg.MaxLen"], apart := false, laid := [("unicode/utf8.acceptRanges", laid_unicode_utf8_acceptRanges), ("unicode/utf8.first", laid_unicode_utf8_first)], narrowed := true }
def FnHanfUptoSaid : Prop := fnHanfUptoRow.holds Tryd.pinned (OpenSpec.upto fnHanfSpec)

/-- 'laws.FnCountingForever', WHERE WHAT IT READS IS OF BULK AT MOST 1048576: true; the input reads as it did. -/
def fnCountingForeverUptoRow : OpenClaim := { program := "ytpcnoiigbmiejaadoor", sum := "5e763babc3dbe761336891e7eb38a9b3cac54881e9a557a05a14c82010f5f524", func := "loop.example/gamesonstructures/laws.FnCountingForever", spec := "fnCountingForever", inPlace := ["internal/bytealg.IndexByteString", "internal/bytealg.IndexString"], unfollowed := true, recurses := true, named := ["unicode/utf8.first", "unicode/utf8.acceptRanges", "internal/bytealg.MaxLen"], apart := false, laid := [("unicode/utf8.acceptRanges", laid_unicode_utf8_acceptRanges), ("unicode/utf8.first", laid_unicode_utf8_first)], narrowed := true }
def FnCountingForeverUptoSaid : Prop := fnCountingForeverUptoRow.holds Tryd.pinned (OpenSpec.upto fnCountingForeverSpec)

/-- 'laws.FnDistanceFormula', WHERE WHAT IT READS IS OF BULK AT MOST 1048576: true; the input reads as it did. -/
def fnDistanceFormulaUptoRow : OpenClaim := { program := "ytpcnoiigbmiejaadoor", sum := "5e763babc3dbe761336891e7eb38a9b3cac54881e9a557a05a14c82010f5f524", func := "loop.example/gamesonstructures/laws.FnDistanceFormula", spec := "fnDistanceFormula", inPlace := ["internal/abi.NoEscape", "internal/bytealg.MakeNoZero", "internal/bytealg.IndexByteString", "internal/bytealg.IndexString"], unfollowed := true, recurses := true, named := ["unicode/utf8.first", "unicode/utf8.acceptRanges", "internal/bytealg.MaxLen"], apart := false, laid := [("unicode/utf8.acceptRanges", laid_unicode_utf8_acceptRanges), ("unicode/utf8.first", laid_unicode_utf8_first)], narrowed := true }
def FnDistanceFormulaUptoSaid : Prop := fnDistanceFormulaUptoRow.holds Tryd.pinned (OpenSpec.upto fnDistanceFormulaSpec)

end Rows
end Go.Proofs.YtpcnoiigbmiejaaDoor
