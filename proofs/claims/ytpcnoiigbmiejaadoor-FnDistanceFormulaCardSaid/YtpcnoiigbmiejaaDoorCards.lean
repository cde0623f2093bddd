/-
  DERIVED. GIVEN WITH THE SEED: THE CARDS: each row of YtpcnoiigbmiejaaDoorRows.lean that lists a variable, with what it lists TIED to the program's text (the seventh form; the later family's looks); each row that meets fmt, with fmt's text TOLD by the authors' own Lean function (tested against real Go, not proved from fmt's source: count such statements apart). THE CARD IS WHAT COUNTS. Prove the row's statement (the work); the ties are given (YtpcnoiigbmiejaaDoorTie.lean); close each card by the builder's one call (the guide's Derived/Test/ToyasCard.lean, 'card_holds'). Laid BY PROGRAM, IN A SANDBOX (cutbox-door.mjs). By AI agents, Wed Nov 11 2026. No macro, syntax, notation, axiom, sorry.
-/
import Derived.Test.YtpcnoiigbmiejaaDoorRows
import GoSem.ClaimSeven
namespace Go.Proofs.YtpcnoiigbmiejaaDoor
namespace Rows

/-- THE TIED CARD OF 'laws.FnSumGames'. -/
def fnSumGamesCard : Claim7 := { stood := { row := fnSumGamesRow, standIns := [], harness := (true, "e32e09a4ab102ed9847466e380c1987ec081949cf82e4b6e711f192d0070164b"), looks := false }, kinds := [], alts := [], laidByText := true, laidKinds := [.data, .pinned], laidTests := true, laidLooks := .later }
def FnSumGamesCardSaid : Prop := Claim7.holds Tryd.pinned (.plain (OpenSpec.ofChange fnSumGamesSpec)) fnSumGamesCard

/-- THE TIED CARD OF 'laws.FnSumLists'. -/
def fnSumListsCard : Claim7 := { stood := { row := fnSumListsRow, standIns := [], harness := (true, "e32e09a4ab102ed9847466e380c1987ec081949cf82e4b6e711f192d0070164b"), looks := false }, kinds := [], alts := [], laidByText := true, laidKinds := [.data, .pinned], laidTests := true, laidLooks := .later }
def FnSumListsCardSaid : Prop := Claim7.holds Tryd.pinned (.plain (OpenSpec.ofChange fnSumListsSpec)) fnSumListsCard

/-- THE TIED CARD OF 'laws.FnCountingWins'. -/
def fnCountingWinsCard : Claim7 := { stood := { row := fnCountingWinsRow, standIns := [], harness := (true, "e32e09a4ab102ed9847466e380c1987ec081949cf82e4b6e711f192d0070164b"), looks := false }, kinds := [], alts := [], laidByText := true, laidKinds := [.data, .pinned], laidTests := true, laidLooks := .later }
def FnCountingWinsCardSaid : Prop := Claim7.holds Tryd.pinned (.plain (OpenSpec.ofChange fnCountingWinsSpec)) fnCountingWinsCard

/-- THE TIED CARD OF 'laws.FnHanf'. -/
def fnHanfCard : Claim7 := { stood := { row := fnHanfRow, standIns := [], harness := (true, "e32e09a4ab102ed9847466e380c1987ec081949cf82e4b6e711f192d0070164b"), looks := false }, kinds := [], alts := [], laidByText := true, laidKinds := [.data, .pinned], laidTests := true, laidLooks := .later }
def FnHanfCardSaid : Prop := Claim7.holds Tryd.pinned (.plain (OpenSpec.ofChange fnHanfSpec)) fnHanfCard

/-- THE TIED CARD OF 'laws.FnCountingForever'. -/
def fnCountingForeverCard : Claim7 := { stood := { row := fnCountingForeverRow, standIns := [], harness := (true, "e32e09a4ab102ed9847466e380c1987ec081949cf82e4b6e711f192d0070164b"), looks := false }, kinds := [], alts := [], laidByText := true, laidKinds := [.data, .pinned], laidTests := true, laidLooks := .later }
def FnCountingForeverCardSaid : Prop := Claim7.holds Tryd.pinned (.plain (OpenSpec.ofChange fnCountingForeverSpec)) fnCountingForeverCard

/-- THE TIED CARD OF 'laws.FnDistanceFormula'. -/
def fnDistanceFormulaCard : Claim7 := { stood := { row := fnDistanceFormulaRow, standIns := [], harness := (true, "e32e09a4ab102ed9847466e380c1987ec081949cf82e4b6e711f192d0070164b"), looks := false }, kinds := [], alts := [], laidByText := true, laidKinds := [.data, .pinned], laidTests := true, laidLooks := .later }
def FnDistanceFormulaCardSaid : Prop := Claim7.holds Tryd.pinned (.plain (OpenSpec.ofChange fnDistanceFormulaSpec)) fnDistanceFormulaCard

/-- THE SECOND FORM's CARD OF 'laws.FnSumGames'. -/
def fnSumGamesUptoCard : Claim7 := { stood := { row := fnSumGamesUptoRow, standIns := [], harness := (true, "e32e09a4ab102ed9847466e380c1987ec081949cf82e4b6e711f192d0070164b"), looks := false }, kinds := [], alts := [], laidByText := true, laidKinds := [.data, .pinned], laidTests := true, laidLooks := .later }
def FnSumGamesUptoCardSaid : Prop := Claim7.holds Tryd.pinned (.plain (OpenSpec.upto fnSumGamesSpec)) fnSumGamesUptoCard

/-- THE SECOND FORM's CARD OF 'laws.FnSumLists'. -/
def fnSumListsUptoCard : Claim7 := { stood := { row := fnSumListsUptoRow, standIns := [], harness := (true, "e32e09a4ab102ed9847466e380c1987ec081949cf82e4b6e711f192d0070164b"), looks := false }, kinds := [], alts := [], laidByText := true, laidKinds := [.data, .pinned], laidTests := true, laidLooks := .later }
def FnSumListsUptoCardSaid : Prop := Claim7.holds Tryd.pinned (.plain (OpenSpec.upto fnSumListsSpec)) fnSumListsUptoCard

/-- THE SECOND FORM's CARD OF 'laws.FnCountingWins'. -/
def fnCountingWinsUptoCard : Claim7 := { stood := { row := fnCountingWinsUptoRow, standIns := [], harness := (true, "e32e09a4ab102ed9847466e380c1987ec081949cf82e4b6e711f192d0070164b"), looks := false }, kinds := [], alts := [], laidByText := true, laidKinds := [.data, .pinned], laidTests := true, laidLooks := .later }
def FnCountingWinsUptoCardSaid : Prop := Claim7.holds Tryd.pinned (.plain (OpenSpec.upto fnCountingWinsSpec)) fnCountingWinsUptoCard

/-- THE SECOND FORM's CARD OF 'laws.FnHanf'. -/
def fnHanfUptoCard : Claim7 := { stood := { row := fnHanfUptoRow, standIns := [], harness := (true, "e32e09a4ab102ed9847466e380c1987ec081949cf82e4b6e711f192d0070164b"), looks := false }, kinds := [], alts := [], laidByText := true, laidKinds := [.data, .pinned], laidTests := true, laidLooks := .later }
def FnHanfUptoCardSaid : Prop := Claim7.holds Tryd.pinned (.plain (OpenSpec.upto fnHanfSpec)) fnHanfUptoCard

/-- THE SECOND FORM's CARD OF 'laws.FnCountingForever'. -/
def fnCountingForeverUptoCard : Claim7 := { stood := { row := fnCountingForeverUptoRow, standIns := [], harness := (true, "e32e09a4ab102ed9847466e380c1987ec081949cf82e4b6e711f192d0070164b"), looks := false }, kinds := [], alts := [], laidByText := true, laidKinds := [.data, .pinned], laidTests := true, laidLooks := .later }
def FnCountingForeverUptoCardSaid : Prop := Claim7.holds Tryd.pinned (.plain (OpenSpec.upto fnCountingForeverSpec)) fnCountingForeverUptoCard

/-- THE SECOND FORM's CARD OF 'laws.FnDistanceFormula'. -/
def fnDistanceFormulaUptoCard : Claim7 := { stood := { row := fnDistanceFormulaUptoRow, standIns := [], harness := (true, "e32e09a4ab102ed9847466e380c1987ec081949cf82e4b6e711f192d0070164b"), looks := false }, kinds := [], alts := [], laidByText := true, laidKinds := [.data, .pinned], laidTests := true, laidLooks := .later }
def FnDistanceFormulaUptoCardSaid : Prop := Claim7.holds Tryd.pinned (.plain (OpenSpec.upto fnDistanceFormulaSpec)) fnDistanceFormulaUptoCard
end Rows
end Go.Proofs.YtpcnoiigbmiejaaDoor
