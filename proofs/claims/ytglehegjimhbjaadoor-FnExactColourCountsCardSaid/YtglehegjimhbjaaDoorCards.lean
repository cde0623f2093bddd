/-
  DERIVED. GIVEN WITH THE SEED: THE CARDS: each row of YtglehegjimhbjaaDoorRows.lean that lists a variable, with what it lists TIED to the program's text (the seventh form; the later family's looks); each row that meets fmt, with fmt's text TOLD by the authors' own Lean function (tested against real Go, not proved from fmt's source: count such statements apart). THE CARD IS WHAT COUNTS. Prove the row's statement (the work); the ties are given (YtglehegjimhbjaaDoorTie.lean); close each card by the builder's one call (the guide's Derived/Test/ToyasCard.lean, 'card_holds'). Laid BY PROGRAM, IN A SANDBOX (cutbox-door.mjs). By AI agents, Wed Nov 11 2026. No macro, syntax, notation, axiom, sorry.
-/
import Derived.Test.YtglehegjimhbjaaDoorRows
import GoSem.ClaimSeven
namespace Go.Proofs.YtglehegjimhbjaaDoor
namespace Rows

/-- THE TIED CARD OF 'laws.FnExactBothColours'. -/
def fnExactBothColoursCard : Claim7 := { stood := { row := fnExactBothColoursRow, standIns := [], harness := (true, "aabce3f9b90ddb5e83f476293a794ccc5c0b09f286fab2d8a4b575f1b44a0eea"), looks := false }, kinds := [], alts := [], laidByText := true, laidKinds := [.data, .pinned], laidTests := true, laidLooks := .later }
def FnExactBothColoursCardSaid : Prop := Claim7.holds Tryd.pinned (.plain (OpenSpec.ofChange fnExactBothColoursSpec)) fnExactBothColoursCard

/-- THE TIED CARD OF 'laws.FnExactColoursOf'. -/
def fnExactColoursOfCard : Claim7 := { stood := { row := fnExactColoursOfRow, standIns := [], harness := (true, "aabce3f9b90ddb5e83f476293a794ccc5c0b09f286fab2d8a4b575f1b44a0eea"), looks := false }, kinds := [], alts := [], laidByText := true, laidKinds := [.data, .pinned], laidTests := true, laidLooks := .later }
def FnExactColoursOfCardSaid : Prop := Claim7.holds Tryd.pinned (.plain (OpenSpec.ofChange fnExactColoursOfSpec)) fnExactColoursOfCard

/-- THE TIED CARD OF 'laws.FnExactSameColours'. -/
def fnExactSameColoursCard : Claim7 := { stood := { row := fnExactSameColoursRow, standIns := [], harness := (true, "aabce3f9b90ddb5e83f476293a794ccc5c0b09f286fab2d8a4b575f1b44a0eea"), looks := false }, kinds := [], alts := [], laidByText := true, laidKinds := [.data, .pinned], laidTests := true, laidLooks := .later }
def FnExactSameColoursCardSaid : Prop := Claim7.holds Tryd.pinned (.plain (OpenSpec.ofChange fnExactSameColoursSpec)) fnExactSameColoursCard

/-- THE TIED CARD OF 'laws.FnExactColourRound'. -/
def fnExactColourRoundCard : Claim7 := { stood := { row := fnExactColourRoundRow, standIns := [], harness := (true, "aabce3f9b90ddb5e83f476293a794ccc5c0b09f286fab2d8a4b575f1b44a0eea"), looks := false }, kinds := [], alts := [], laidByText := true, laidKinds := [.data, .pinned], laidTests := true, laidLooks := .later }
def FnExactColourRoundCardSaid : Prop := Claim7.holds Tryd.pinned (.plain (OpenSpec.ofChange fnExactColourRoundSpec)) fnExactColourRoundCard

/-- THE TIED CARD OF 'laws.FnExactStableColours'. -/
def fnExactStableColoursCard : Claim7 := { stood := { row := fnExactStableColoursRow, standIns := [], harness := (true, "aabce3f9b90ddb5e83f476293a794ccc5c0b09f286fab2d8a4b575f1b44a0eea"), looks := false }, kinds := [], alts := [], laidByText := true, laidKinds := [.data, .pinned], laidTests := true, laidLooks := .later }
def FnExactStableColoursCardSaid : Prop := Claim7.holds Tryd.pinned (.plain (OpenSpec.ofChange fnExactStableColoursSpec)) fnExactStableColoursCard

/-- THE TIED CARD OF 'laws.FnExactColourCounts'. -/
def fnExactColourCountsCard : Claim7 := { stood := { row := fnExactColourCountsRow, standIns := [], harness := (true, "aabce3f9b90ddb5e83f476293a794ccc5c0b09f286fab2d8a4b575f1b44a0eea"), looks := false }, kinds := [], alts := [], laidByText := true, laidKinds := [.data, .pinned], laidTests := true, laidLooks := .later }
def FnExactColourCountsCardSaid : Prop := Claim7.holds Tryd.pinned (.plain (OpenSpec.ofChange fnExactColourCountsSpec)) fnExactColourCountsCard

/-- THE SECOND FORM's CARD OF 'laws.FnExactBothColours'. -/
def fnExactBothColoursUptoCard : Claim7 := { stood := { row := fnExactBothColoursUptoRow, standIns := [], harness := (true, "aabce3f9b90ddb5e83f476293a794ccc5c0b09f286fab2d8a4b575f1b44a0eea"), looks := false }, kinds := [], alts := [], laidByText := true, laidKinds := [.data, .pinned], laidTests := true, laidLooks := .later }
def FnExactBothColoursUptoCardSaid : Prop := Claim7.holds Tryd.pinned (.plain (OpenSpec.upto fnExactBothColoursSpec)) fnExactBothColoursUptoCard

/-- THE SECOND FORM's CARD OF 'laws.FnExactColoursOf'. -/
def fnExactColoursOfUptoCard : Claim7 := { stood := { row := fnExactColoursOfUptoRow, standIns := [], harness := (true, "aabce3f9b90ddb5e83f476293a794ccc5c0b09f286fab2d8a4b575f1b44a0eea"), looks := false }, kinds := [], alts := [], laidByText := true, laidKinds := [.data, .pinned], laidTests := true, laidLooks := .later }
def FnExactColoursOfUptoCardSaid : Prop := Claim7.holds Tryd.pinned (.plain (OpenSpec.upto fnExactColoursOfSpec)) fnExactColoursOfUptoCard

/-- THE SECOND FORM's CARD OF 'laws.FnExactSameColours'. -/
def fnExactSameColoursUptoCard : Claim7 := { stood := { row := fnExactSameColoursUptoRow, standIns := [], harness := (true, "aabce3f9b90ddb5e83f476293a794ccc5c0b09f286fab2d8a4b575f1b44a0eea"), looks := false }, kinds := [], alts := [], laidByText := true, laidKinds := [.data, .pinned], laidTests := true, laidLooks := .later }
def FnExactSameColoursUptoCardSaid : Prop := Claim7.holds Tryd.pinned (.plain (OpenSpec.upto fnExactSameColoursSpec)) fnExactSameColoursUptoCard

/-- THE SECOND FORM's CARD OF 'laws.FnExactColourRound'. -/
def fnExactColourRoundUptoCard : Claim7 := { stood := { row := fnExactColourRoundUptoRow, standIns := [], harness := (true, "aabce3f9b90ddb5e83f476293a794ccc5c0b09f286fab2d8a4b575f1b44a0eea"), looks := false }, kinds := [], alts := [], laidByText := true, laidKinds := [.data, .pinned], laidTests := true, laidLooks := .later }
def FnExactColourRoundUptoCardSaid : Prop := Claim7.holds Tryd.pinned (.plain (OpenSpec.upto fnExactColourRoundSpec)) fnExactColourRoundUptoCard

/-- THE SECOND FORM's CARD OF 'laws.FnExactStableColours'. -/
def fnExactStableColoursUptoCard : Claim7 := { stood := { row := fnExactStableColoursUptoRow, standIns := [], harness := (true, "aabce3f9b90ddb5e83f476293a794ccc5c0b09f286fab2d8a4b575f1b44a0eea"), looks := false }, kinds := [], alts := [], laidByText := true, laidKinds := [.data, .pinned], laidTests := true, laidLooks := .later }
def FnExactStableColoursUptoCardSaid : Prop := Claim7.holds Tryd.pinned (.plain (OpenSpec.upto fnExactStableColoursSpec)) fnExactStableColoursUptoCard

/-- THE SECOND FORM's CARD OF 'laws.FnExactColourCounts'. -/
def fnExactColourCountsUptoCard : Claim7 := { stood := { row := fnExactColourCountsUptoRow, standIns := [], harness := (true, "aabce3f9b90ddb5e83f476293a794ccc5c0b09f286fab2d8a4b575f1b44a0eea"), looks := false }, kinds := [], alts := [], laidByText := true, laidKinds := [.data, .pinned], laidTests := true, laidLooks := .later }
def FnExactColourCountsUptoCardSaid : Prop := Claim7.holds Tryd.pinned (.plain (OpenSpec.upto fnExactColourCountsSpec)) fnExactColourCountsUptoCard
end Rows
end Go.Proofs.YtglehegjimhbjaaDoor
