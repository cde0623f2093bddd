/-
  DERIVED. GIVEN WITH THE SEED: THE CARDS: each row of YtpcnoiigbmiejaaGreatDoorRows.lean that lists a variable, with what it lists TIED to the program's text (the seventh form; the later family's looks); each row that meets fmt, with fmt's text TOLD by the authors' own Lean function (tested against real Go, not proved from fmt's source: count such statements apart). THE CARD IS WHAT COUNTS. Prove the row's statement (the work); the ties are given (YtpcnoiigbmiejaaGreatDoorTie.lean); close each card by the builder's one call (the guide's Derived/Test/ToyasCard.lean, 'card_holds'). Laid BY PROGRAM, IN A SANDBOX (cutbox-door.mjs). By AI agents, Wed Nov 11 2026. No macro, syntax, notation, axiom, sorry.
-/
import Derived.Test.YtpcnoiigbmiejaaGreatDoorRows
import GoSem.ClaimSeven
namespace Go.Proofs.YtpcnoiigbmiejaaGreatDoor
namespace Rows

/-- THE TIED CARD OF 'laws.FnColoursCounting'. -/
def fnColoursCountingCard : Claim7 := { stood := { row := fnColoursCountingRow, standIns := [], harness := (true, "a6ba53a4a07303d411038cc6f1f29228bfd874318be279f1c5e58bd31f7873b3"), looks := false }, kinds := [], alts := [], laidByText := true, laidKinds := [.data, .pinned], laidTests := true, laidLooks := .later }
def FnColoursCountingCardSaid : Prop := Claim7.holds Tryz.pinned (.plain (OpenSpec.ofChange fnColoursCountingSpec)) fnColoursCountingCard

/-- THE TIED CARD OF 'laws.FnBallsShape'. -/
def fnBallsShapeCard : Claim7 := { stood := { row := fnBallsShapeRow, standIns := [], harness := (true, "a6ba53a4a07303d411038cc6f1f29228bfd874318be279f1c5e58bd31f7873b3"), looks := false }, kinds := [], alts := [], laidByText := true, laidKinds := [.data, .pinned], laidTests := true, laidLooks := .later }
def FnBallsShapeCardSaid : Prop := Claim7.holds Tryz.pinned (.plain (OpenSpec.ofChange fnBallsShapeSpec)) fnBallsShapeCard

/-- THE TIED CARD OF 'laws.FnTwoVariables'. -/
def fnTwoVariablesCard : Claim7 := { stood := { row := fnTwoVariablesRow, standIns := [], harness := (true, "a6ba53a4a07303d411038cc6f1f29228bfd874318be279f1c5e58bd31f7873b3"), looks := false }, kinds := [], alts := [], laidByText := true, laidKinds := [.data, .pinned], laidTests := true, laidLooks := .later }
def FnTwoVariablesCardSaid : Prop := Claim7.holds Tryz.pinned (.plain (OpenSpec.ofChange fnTwoVariablesSpec)) fnTwoVariablesCard

/-- THE TIED CARD OF 'laws.FnElementsCounting'. -/
def fnElementsCountingCard : Claim7 := { stood := { row := fnElementsCountingRow, standIns := [], harness := (true, "a6ba53a4a07303d411038cc6f1f29228bfd874318be279f1c5e58bd31f7873b3"), looks := false }, kinds := [], alts := [], laidByText := true, laidKinds := [.data, .pinned], laidTests := true, laidLooks := .later }
def FnElementsCountingCardSaid : Prop := Claim7.holds Tryz.pinned (.plain (OpenSpec.ofChange fnElementsCountingSpec)) fnElementsCountingCard

/-- THE SECOND FORM's CARD OF 'laws.FnColoursCounting'. -/
def fnColoursCountingUptoCard : Claim7 := { stood := { row := fnColoursCountingUptoRow, standIns := [], harness := (true, "a6ba53a4a07303d411038cc6f1f29228bfd874318be279f1c5e58bd31f7873b3"), looks := false }, kinds := [], alts := [], laidByText := true, laidKinds := [.data, .pinned], laidTests := true, laidLooks := .later }
def FnColoursCountingUptoCardSaid : Prop := Claim7.holds Tryz.pinned (.plain (OpenSpec.upto fnColoursCountingSpec)) fnColoursCountingUptoCard

/-- THE SECOND FORM's CARD OF 'laws.FnBallsShape'. -/
def fnBallsShapeUptoCard : Claim7 := { stood := { row := fnBallsShapeUptoRow, standIns := [], harness := (true, "a6ba53a4a07303d411038cc6f1f29228bfd874318be279f1c5e58bd31f7873b3"), looks := false }, kinds := [], alts := [], laidByText := true, laidKinds := [.data, .pinned], laidTests := true, laidLooks := .later }
def FnBallsShapeUptoCardSaid : Prop := Claim7.holds Tryz.pinned (.plain (OpenSpec.upto fnBallsShapeSpec)) fnBallsShapeUptoCard

/-- THE SECOND FORM's CARD OF 'laws.FnTwoVariables'. -/
def fnTwoVariablesUptoCard : Claim7 := { stood := { row := fnTwoVariablesUptoRow, standIns := [], harness := (true, "a6ba53a4a07303d411038cc6f1f29228bfd874318be279f1c5e58bd31f7873b3"), looks := false }, kinds := [], alts := [], laidByText := true, laidKinds := [.data, .pinned], laidTests := true, laidLooks := .later }
def FnTwoVariablesUptoCardSaid : Prop := Claim7.holds Tryz.pinned (.plain (OpenSpec.upto fnTwoVariablesSpec)) fnTwoVariablesUptoCard

/-- THE SECOND FORM's CARD OF 'laws.FnElementsCounting'. -/
def fnElementsCountingUptoCard : Claim7 := { stood := { row := fnElementsCountingUptoRow, standIns := [], harness := (true, "a6ba53a4a07303d411038cc6f1f29228bfd874318be279f1c5e58bd31f7873b3"), looks := false }, kinds := [], alts := [], laidByText := true, laidKinds := [.data, .pinned], laidTests := true, laidLooks := .later }
def FnElementsCountingUptoCardSaid : Prop := Claim7.holds Tryz.pinned (.plain (OpenSpec.upto fnElementsCountingSpec)) fnElementsCountingUptoCard
end Rows
end Go.Proofs.YtpcnoiigbmiejaaGreatDoor
