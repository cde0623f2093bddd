/-
  DERIVED. GIVEN WITH THE SEED: THE CARDS: each row of YtefneihlgclkbaaGreatDoorRows.lean that lists a variable, with what it lists TIED to the program's text (the seventh form; the later family's looks); each row that meets fmt, with fmt's text TOLD by the authors' own Lean function (tested against real Go, not proved from fmt's source: count such statements apart). THE CARD IS WHAT COUNTS. Prove the row's statement (the work); the ties are given (YtefneihlgclkbaaGreatDoorTie.lean); close each card by the builder's one call (the guide's Derived/Test/ToyasCard.lean, 'card_holds'). Laid BY PROGRAM, IN A SANDBOX (cutbox-door.mjs). By AI agents, Wed Nov 11 2026. No macro, syntax, notation, axiom, sorry.
-/
import Derived.Test.YtefneihlgclkbaaGreatDoorRows
import GoSem.ClaimSeven
namespace Go.Proofs.YtefneihlgclkbaaGreatDoor
namespace Rows

/-- THE TIED CARD OF 'laws.FnColours'. -/
def fnColoursCard : Claim7 := { stood := { row := fnColoursRow, standIns := [], harness := (true, "921194916dcc20cfb4b1ca760143b61706871c8769a92d35d177052026380176"), looks := false }, kinds := [], alts := [], laidByText := true, laidKinds := [.data, .pinned], laidTests := true, laidLooks := .later }
def FnColoursCardSaid : Prop := Claim7.holds Tryz.pinned (.plain (OpenSpec.ofChange fnColoursSpec)) fnColoursCard

/-- THE TIED CARD OF 'laws.FnColourCounts'. -/
def fnColourCountsCard : Claim7 := { stood := { row := fnColourCountsRow, standIns := [], harness := (true, "921194916dcc20cfb4b1ca760143b61706871c8769a92d35d177052026380176"), looks := false }, kinds := [], alts := [], laidByText := true, laidKinds := [.data, .pinned], laidTests := true, laidLooks := .later }
def FnColourCountsCardSaid : Prop := Claim7.holds Tryz.pinned (.plain (OpenSpec.ofChange fnColourCountsSpec)) fnColourCountsCard

/-- THE SECOND FORM's CARD OF 'laws.FnColours'. -/
def fnColoursUptoCard : Claim7 := { stood := { row := fnColoursUptoRow, standIns := [], harness := (true, "921194916dcc20cfb4b1ca760143b61706871c8769a92d35d177052026380176"), looks := false }, kinds := [], alts := [], laidByText := true, laidKinds := [.data, .pinned], laidTests := true, laidLooks := .later }
def FnColoursUptoCardSaid : Prop := Claim7.holds Tryz.pinned (.plain (OpenSpec.upto fnColoursSpec)) fnColoursUptoCard

/-- THE SECOND FORM's CARD OF 'laws.FnColourCounts'. -/
def fnColourCountsUptoCard : Claim7 := { stood := { row := fnColourCountsUptoRow, standIns := [], harness := (true, "921194916dcc20cfb4b1ca760143b61706871c8769a92d35d177052026380176"), looks := false }, kinds := [], alts := [], laidByText := true, laidKinds := [.data, .pinned], laidTests := true, laidLooks := .later }
def FnColourCountsUptoCardSaid : Prop := Claim7.holds Tryz.pinned (.plain (OpenSpec.upto fnColourCountsSpec)) fnColourCountsUptoCard
end Rows
end Go.Proofs.YtefneihlgclkbaaGreatDoor
