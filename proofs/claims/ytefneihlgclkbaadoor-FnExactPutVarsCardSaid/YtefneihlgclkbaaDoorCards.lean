/-
  DERIVED. GIVEN WITH THE SEED: THE CARDS: each row of YtefneihlgclkbaaDoorRows.lean that lists a variable, with what it lists TIED to the program's text (the seventh form; the later family's looks); each row that meets fmt, with fmt's text TOLD by the authors' own Lean function (tested against real Go, not proved from fmt's source: count such statements apart). THE CARD IS WHAT COUNTS. Prove the row's statement (the work); the ties are given (YtefneihlgclkbaaDoorTie.lean); close each card by the builder's one call (the guide's Derived/Test/ToyasCard.lean, 'card_holds'). Laid BY PROGRAM, IN A SANDBOX (cutbox-door.mjs). By AI agents, Wed Nov 11 2026. No macro, syntax, notation, axiom, sorry.
-/
import Derived.Test.YtefneihlgclkbaaDoorRows
import GoSem.ClaimSeven
namespace Go.Proofs.YtefneihlgclkbaaDoor
namespace Rows

/-- THE TIED CARD OF 'laws.FnProductOf'. -/
def fnProductOfCard : Claim7 := { stood := { row := fnProductOfRow, standIns := [], harness := (true, "5a92385d6301bd6ac283b089e294f904eef9322ebbfb856819448f6045d4ec42"), looks := false }, kinds := [], alts := [], laidByText := true, laidKinds := [.data, .pinned], laidTests := true, laidLooks := .later }
def FnProductOfCardSaid : Prop := Claim7.holds Tryd.pinned (.plain (OpenSpec.ofChange fnProductOfSpec)) fnProductOfCard

/-- THE TIED CARD OF 'laws.FnDisjointSum'. -/
def fnDisjointSumCard : Claim7 := { stood := { row := fnDisjointSumRow, standIns := [], harness := (true, "5a92385d6301bd6ac283b089e294f904eef9322ebbfb856819448f6045d4ec42"), looks := false }, kinds := [], alts := [], laidByText := true, laidKinds := [.data, .pinned], laidTests := true, laidLooks := .later }
def FnDisjointSumCardSaid : Prop := Claim7.holds Tryd.pinned (.plain (OpenSpec.ofChange fnDisjointSumSpec)) fnDisjointSumCard

/-- THE TIED CARD OF 'laws.FnCopies'. -/
def fnCopiesCard : Claim7 := { stood := { row := fnCopiesRow, standIns := [], harness := (true, "5a92385d6301bd6ac283b089e294f904eef9322ebbfb856819448f6045d4ec42"), looks := false }, kinds := [], alts := [], laidByText := true, laidKinds := [.data, .pinned], laidTests := true, laidLooks := .later }
def FnCopiesCardSaid : Prop := Claim7.holds Tryd.pinned (.plain (OpenSpec.ofChange fnCopiesSpec)) fnCopiesCard

/-- THE TIED CARD OF 'laws.FnPairLists'. -/
def fnPairListsCard : Claim7 := { stood := { row := fnPairListsRow, standIns := [], harness := (true, "5a92385d6301bd6ac283b089e294f904eef9322ebbfb856819448f6045d4ec42"), looks := false }, kinds := [], alts := [], laidByText := true, laidKinds := [.data, .pinned], laidTests := true, laidLooks := .later }
def FnPairListsCardSaid : Prop := Claim7.holds Tryd.pinned (.plain (OpenSpec.ofChange fnPairListsSpec)) fnPairListsCard

/-- THE TIED CARD OF 'laws.FnSameBall'. -/
def fnSameBallCard : Claim7 := { stood := { row := fnSameBallRow, standIns := [], harness := (true, "5a92385d6301bd6ac283b089e294f904eef9322ebbfb856819448f6045d4ec42"), looks := false }, kinds := [], alts := [], laidByText := true, laidKinds := [.data, .pinned], laidTests := true, laidLooks := .later }
def FnSameBallCardSaid : Prop := Claim7.holds Tryd.pinned (.plain (OpenSpec.ofChange fnSameBallSpec)) fnSameBallCard

/-- THE TIED CARD OF 'laws.FnBallClasses'. -/
def fnBallClassesCard : Claim7 := { stood := { row := fnBallClassesRow, standIns := [], harness := (true, "5a92385d6301bd6ac283b089e294f904eef9322ebbfb856819448f6045d4ec42"), looks := false }, kinds := [], alts := [], laidByText := true, laidKinds := [.data, .pinned], laidTests := true, laidLooks := .later }
def FnBallClassesCardSaid : Prop := Claim7.holds Tryd.pinned (.plain (OpenSpec.ofChange fnBallClassesSpec)) fnBallClassesCard

/-- THE TIED CARD OF 'laws.FnExactPutVars'. -/
def fnExactPutVarsCard : Claim7 := { stood := { row := fnExactPutVarsRow, standIns := [], harness := (true, "5a92385d6301bd6ac283b089e294f904eef9322ebbfb856819448f6045d4ec42"), looks := false }, kinds := [], alts := [], laidByText := true, laidKinds := [.data, .pinned], laidTests := true, laidLooks := .later }
def FnExactPutVarsCardSaid : Prop := Claim7.holds Tryd.pinned (.plain (OpenSpec.ofChange fnExactPutVarsSpec)) fnExactPutVarsCard

/-- THE SECOND FORM's CARD OF 'laws.FnProductOf'. -/
def fnProductOfUptoCard : Claim7 := { stood := { row := fnProductOfUptoRow, standIns := [], harness := (true, "5a92385d6301bd6ac283b089e294f904eef9322ebbfb856819448f6045d4ec42"), looks := false }, kinds := [], alts := [], laidByText := true, laidKinds := [.data, .pinned], laidTests := true, laidLooks := .later }
def FnProductOfUptoCardSaid : Prop := Claim7.holds Tryd.pinned (.plain (OpenSpec.upto fnProductOfSpec)) fnProductOfUptoCard

/-- THE SECOND FORM's CARD OF 'laws.FnDisjointSum'. -/
def fnDisjointSumUptoCard : Claim7 := { stood := { row := fnDisjointSumUptoRow, standIns := [], harness := (true, "5a92385d6301bd6ac283b089e294f904eef9322ebbfb856819448f6045d4ec42"), looks := false }, kinds := [], alts := [], laidByText := true, laidKinds := [.data, .pinned], laidTests := true, laidLooks := .later }
def FnDisjointSumUptoCardSaid : Prop := Claim7.holds Tryd.pinned (.plain (OpenSpec.upto fnDisjointSumSpec)) fnDisjointSumUptoCard

/-- THE SECOND FORM's CARD OF 'laws.FnCopies'. -/
def fnCopiesUptoCard : Claim7 := { stood := { row := fnCopiesUptoRow, standIns := [], harness := (true, "5a92385d6301bd6ac283b089e294f904eef9322ebbfb856819448f6045d4ec42"), looks := false }, kinds := [], alts := [], laidByText := true, laidKinds := [.data, .pinned], laidTests := true, laidLooks := .later }
def FnCopiesUptoCardSaid : Prop := Claim7.holds Tryd.pinned (.plain (OpenSpec.upto fnCopiesSpec)) fnCopiesUptoCard

/-- THE SECOND FORM's CARD OF 'laws.FnPairLists'. -/
def fnPairListsUptoCard : Claim7 := { stood := { row := fnPairListsUptoRow, standIns := [], harness := (true, "5a92385d6301bd6ac283b089e294f904eef9322ebbfb856819448f6045d4ec42"), looks := false }, kinds := [], alts := [], laidByText := true, laidKinds := [.data, .pinned], laidTests := true, laidLooks := .later }
def FnPairListsUptoCardSaid : Prop := Claim7.holds Tryd.pinned (.plain (OpenSpec.upto fnPairListsSpec)) fnPairListsUptoCard

/-- THE SECOND FORM's CARD OF 'laws.FnSameBall'. -/
def fnSameBallUptoCard : Claim7 := { stood := { row := fnSameBallUptoRow, standIns := [], harness := (true, "5a92385d6301bd6ac283b089e294f904eef9322ebbfb856819448f6045d4ec42"), looks := false }, kinds := [], alts := [], laidByText := true, laidKinds := [.data, .pinned], laidTests := true, laidLooks := .later }
def FnSameBallUptoCardSaid : Prop := Claim7.holds Tryd.pinned (.plain (OpenSpec.upto fnSameBallSpec)) fnSameBallUptoCard

/-- THE SECOND FORM's CARD OF 'laws.FnBallClasses'. -/
def fnBallClassesUptoCard : Claim7 := { stood := { row := fnBallClassesUptoRow, standIns := [], harness := (true, "5a92385d6301bd6ac283b089e294f904eef9322ebbfb856819448f6045d4ec42"), looks := false }, kinds := [], alts := [], laidByText := true, laidKinds := [.data, .pinned], laidTests := true, laidLooks := .later }
def FnBallClassesUptoCardSaid : Prop := Claim7.holds Tryd.pinned (.plain (OpenSpec.upto fnBallClassesSpec)) fnBallClassesUptoCard

/-- THE SECOND FORM's CARD OF 'laws.FnExactPutVars'. -/
def fnExactPutVarsUptoCard : Claim7 := { stood := { row := fnExactPutVarsUptoRow, standIns := [], harness := (true, "5a92385d6301bd6ac283b089e294f904eef9322ebbfb856819448f6045d4ec42"), looks := false }, kinds := [], alts := [], laidByText := true, laidKinds := [.data, .pinned], laidTests := true, laidLooks := .later }
def FnExactPutVarsUptoCardSaid : Prop := Claim7.holds Tryd.pinned (.plain (OpenSpec.upto fnExactPutVarsSpec)) fnExactPutVarsUptoCard
end Rows
end Go.Proofs.YtefneihlgclkbaaDoor
