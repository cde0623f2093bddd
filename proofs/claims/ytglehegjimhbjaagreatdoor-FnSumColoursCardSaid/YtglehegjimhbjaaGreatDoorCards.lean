/-
  DERIVED. GIVEN WITH THE SEED: THE CARDS: each row of YtglehegjimhbjaaGreatDoorRows.lean that lists a variable, with what it lists TIED to the program's text (the seventh form; the later family's looks); each row that meets fmt, with fmt's text TOLD by the authors' own Lean function (tested against real Go, not proved from fmt's source: count such statements apart). THE CARD IS WHAT COUNTS. Prove the row's statement (the work); the ties are given (YtglehegjimhbjaaGreatDoorTie.lean); close each card by the builder's one call (the guide's Derived/Test/ToyasCard.lean, 'card_holds'). Laid BY PROGRAM, IN A SANDBOX (cutbox-door.mjs). By AI agents, Wed Nov 11 2026. No macro, syntax, notation, axiom, sorry.
-/
import Derived.Test.YtglehegjimhbjaaGreatDoorRows
import GoSem.ClaimSeven
namespace Go.Proofs.YtglehegjimhbjaaGreatDoor
namespace Rows

/-- THE TIED CARD OF 'laws.FnStable'. -/
def fnStableCard : Claim7 := { stood := { row := fnStableRow, standIns := [], harness := (true, "dc8c887e5e56d197fda2324760c072841acf752b64d11eefd6a966a8c3d5cfb6"), looks := false }, kinds := [], alts := [], laidByText := true, laidKinds := [.data, .pinned], laidTests := true, laidLooks := .later }
def FnStableCardSaid : Prop := Claim7.holds Tryz.pinned (.plain (OpenSpec.ofChange fnStableSpec)) fnStableCard

/-- THE TIED CARD OF 'laws.FnBothColours'. -/
def fnBothColoursCard : Claim7 := { stood := { row := fnBothColoursRow, standIns := [], harness := (true, "dc8c887e5e56d197fda2324760c072841acf752b64d11eefd6a966a8c3d5cfb6"), looks := false }, kinds := [], alts := [], laidByText := true, laidKinds := [.data, .pinned], laidTests := true, laidLooks := .later }
def FnBothColoursCardSaid : Prop := Claim7.holds Tryz.pinned (.plain (OpenSpec.ofChange fnBothColoursSpec)) fnBothColoursCard

/-- THE TIED CARD OF 'laws.FnColourCounts'. -/
def fnColourCountsCard : Claim7 := { stood := { row := fnColourCountsRow, standIns := [], harness := (true, "dc8c887e5e56d197fda2324760c072841acf752b64d11eefd6a966a8c3d5cfb6"), looks := false }, kinds := [], alts := [], laidByText := true, laidKinds := [.data, .pinned], laidTests := true, laidLooks := .later }
def FnColourCountsCardSaid : Prop := Claim7.holds Tryz.pinned (.plain (OpenSpec.ofChange fnColourCountsSpec)) fnColourCountsCard

/-- THE TIED CARD OF 'laws.FnColours'. -/
def fnColoursCard : Claim7 := { stood := { row := fnColoursRow, standIns := [], harness := (true, "dc8c887e5e56d197fda2324760c072841acf752b64d11eefd6a966a8c3d5cfb6"), looks := false }, kinds := [], alts := [], laidByText := true, laidKinds := [.data, .pinned], laidTests := true, laidLooks := .later }
def FnColoursCardSaid : Prop := Claim7.holds Tryz.pinned (.plain (OpenSpec.ofChange fnColoursSpec)) fnColoursCard

/-- THE TIED CARD OF 'laws.FnSameColours'. -/
def fnSameColoursCard : Claim7 := { stood := { row := fnSameColoursRow, standIns := [], harness := (true, "dc8c887e5e56d197fda2324760c072841acf752b64d11eefd6a966a8c3d5cfb6"), looks := false }, kinds := [], alts := [], laidByText := true, laidKinds := [.data, .pinned], laidTests := true, laidLooks := .later }
def FnSameColoursCardSaid : Prop := Claim7.holds Tryz.pinned (.plain (OpenSpec.ofChange fnSameColoursSpec)) fnSameColoursCard

/-- THE TIED CARD OF 'laws.FnSumColours'. -/
def fnSumColoursCard : Claim7 := { stood := { row := fnSumColoursRow, standIns := [], harness := (true, "dc8c887e5e56d197fda2324760c072841acf752b64d11eefd6a966a8c3d5cfb6"), looks := false }, kinds := [], alts := [], laidByText := true, laidKinds := [.data, .pinned], laidTests := true, laidLooks := .later }
def FnSumColoursCardSaid : Prop := Claim7.holds Tryz.pinned (.plain (OpenSpec.ofChange fnSumColoursSpec)) fnSumColoursCard

/-- THE SECOND FORM's CARD OF 'laws.FnStable'. -/
def fnStableUptoCard : Claim7 := { stood := { row := fnStableUptoRow, standIns := [], harness := (true, "dc8c887e5e56d197fda2324760c072841acf752b64d11eefd6a966a8c3d5cfb6"), looks := false }, kinds := [], alts := [], laidByText := true, laidKinds := [.data, .pinned], laidTests := true, laidLooks := .later }
def FnStableUptoCardSaid : Prop := Claim7.holds Tryz.pinned (.plain (OpenSpec.upto fnStableSpec)) fnStableUptoCard

/-- THE SECOND FORM's CARD OF 'laws.FnBothColours'. -/
def fnBothColoursUptoCard : Claim7 := { stood := { row := fnBothColoursUptoRow, standIns := [], harness := (true, "dc8c887e5e56d197fda2324760c072841acf752b64d11eefd6a966a8c3d5cfb6"), looks := false }, kinds := [], alts := [], laidByText := true, laidKinds := [.data, .pinned], laidTests := true, laidLooks := .later }
def FnBothColoursUptoCardSaid : Prop := Claim7.holds Tryz.pinned (.plain (OpenSpec.upto fnBothColoursSpec)) fnBothColoursUptoCard

/-- THE SECOND FORM's CARD OF 'laws.FnColourCounts'. -/
def fnColourCountsUptoCard : Claim7 := { stood := { row := fnColourCountsUptoRow, standIns := [], harness := (true, "dc8c887e5e56d197fda2324760c072841acf752b64d11eefd6a966a8c3d5cfb6"), looks := false }, kinds := [], alts := [], laidByText := true, laidKinds := [.data, .pinned], laidTests := true, laidLooks := .later }
def FnColourCountsUptoCardSaid : Prop := Claim7.holds Tryz.pinned (.plain (OpenSpec.upto fnColourCountsSpec)) fnColourCountsUptoCard

/-- THE SECOND FORM's CARD OF 'laws.FnColours'. -/
def fnColoursUptoCard : Claim7 := { stood := { row := fnColoursUptoRow, standIns := [], harness := (true, "dc8c887e5e56d197fda2324760c072841acf752b64d11eefd6a966a8c3d5cfb6"), looks := false }, kinds := [], alts := [], laidByText := true, laidKinds := [.data, .pinned], laidTests := true, laidLooks := .later }
def FnColoursUptoCardSaid : Prop := Claim7.holds Tryz.pinned (.plain (OpenSpec.upto fnColoursSpec)) fnColoursUptoCard

/-- THE SECOND FORM's CARD OF 'laws.FnSameColours'. -/
def fnSameColoursUptoCard : Claim7 := { stood := { row := fnSameColoursUptoRow, standIns := [], harness := (true, "dc8c887e5e56d197fda2324760c072841acf752b64d11eefd6a966a8c3d5cfb6"), looks := false }, kinds := [], alts := [], laidByText := true, laidKinds := [.data, .pinned], laidTests := true, laidLooks := .later }
def FnSameColoursUptoCardSaid : Prop := Claim7.holds Tryz.pinned (.plain (OpenSpec.upto fnSameColoursSpec)) fnSameColoursUptoCard

/-- THE SECOND FORM's CARD OF 'laws.FnSumColours'. -/
def fnSumColoursUptoCard : Claim7 := { stood := { row := fnSumColoursUptoRow, standIns := [], harness := (true, "dc8c887e5e56d197fda2324760c072841acf752b64d11eefd6a966a8c3d5cfb6"), looks := false }, kinds := [], alts := [], laidByText := true, laidKinds := [.data, .pinned], laidTests := true, laidLooks := .later }
def FnSumColoursUptoCardSaid : Prop := Claim7.holds Tryz.pinned (.plain (OpenSpec.upto fnSumColoursSpec)) fnSumColoursUptoCard
end Rows
end Go.Proofs.YtglehegjimhbjaaGreatDoor
