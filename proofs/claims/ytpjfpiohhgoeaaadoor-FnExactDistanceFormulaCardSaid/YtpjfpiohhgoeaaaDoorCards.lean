/-
  DERIVED. GIVEN WITH THE SEED: THE CARDS: each row of YtpjfpiohhgoeaaaDoorRows.lean that lists a variable, with what it lists TIED to the program's text (the seventh form; the later family's looks); each row that meets fmt, with fmt's text TOLD by the authors' own Lean function (tested against real Go, not proved from fmt's source: count such statements apart). THE CARD IS WHAT COUNTS. Prove the row's statement (the work); the ties are given (YtpjfpiohhgoeaaaDoorTie.lean); close each card by the builder's one call (the guide's Derived/Test/ToyasCard.lean, 'card_holds'). Laid BY PROGRAM, IN A SANDBOX (cutbox-door.mjs). By AI agents, Wed Nov 11 2026. No macro, syntax, notation, axiom, sorry.
-/
import Derived.Test.YtpjfpiohhgoeaaaDoorRows
import GoSem.ClaimSeven
namespace Go.Proofs.YtpjfpiohhgoeaaaDoor
namespace Rows

/-- THE TIED CARD OF 'laws.FnExactDistanceFormula'. -/
def fnExactDistanceFormulaCard : Claim7 := { stood := { row := fnExactDistanceFormulaRow, standIns := [], harness := (true, "4c28491d431a01f5ea804ce4ae9b94c90bbdffa5c3309c0f31fc6d5c6fa64142"), looks := false }, kinds := [], alts := [], laidByText := true, laidKinds := [.data, .pinned], laidTests := true, laidLooks := .later }
def FnExactDistanceFormulaCardSaid : Prop := Claim7.holds Tryd.pinned (.plain (OpenSpec.ofChange fnExactDistanceFormulaSpec)) fnExactDistanceFormulaCard

/-- THE TIED CARD OF 'laws.FnExactPairPlace'. -/
def fnExactPairPlaceCard : Claim7 := { stood := { row := fnExactPairPlaceRow, standIns := [], harness := (true, "4c28491d431a01f5ea804ce4ae9b94c90bbdffa5c3309c0f31fc6d5c6fa64142"), looks := false }, kinds := [], alts := [], laidByText := true, laidKinds := [.data, .pinned], laidTests := true, laidLooks := .later }
def FnExactPairPlaceCardSaid : Prop := Claim7.holds Tryd.pinned (.plain (OpenSpec.ofChange fnExactPairPlaceSpec)) fnExactPairPlaceCard

/-- THE TIED CARD OF 'laws.FnExactNearOf'. -/
def fnExactNearOfCard : Claim7 := { stood := { row := fnExactNearOfRow, standIns := [], harness := (true, "4c28491d431a01f5ea804ce4ae9b94c90bbdffa5c3309c0f31fc6d5c6fa64142"), looks := false }, kinds := [], alts := [], laidByText := true, laidKinds := [.data, .pinned], laidTests := true, laidLooks := .later }
def FnExactNearOfCardSaid : Prop := Claim7.holds Tryd.pinned (.plain (OpenSpec.ofChange fnExactNearOfSpec)) fnExactNearOfCard

/-- THE TIED CARD OF 'laws.FnExactProductOf'. -/
def fnExactProductOfCard : Claim7 := { stood := { row := fnExactProductOfRow, standIns := [], harness := (true, "4c28491d431a01f5ea804ce4ae9b94c90bbdffa5c3309c0f31fc6d5c6fa64142"), looks := false }, kinds := [], alts := [], laidByText := true, laidKinds := [.data, .pinned], laidTests := true, laidLooks := .later }
def FnExactProductOfCardSaid : Prop := Claim7.holds Tryd.pinned (.plain (OpenSpec.ofChange fnExactProductOfSpec)) fnExactProductOfCard

/-- THE TIED CARD OF 'laws.FnExactDistanceOf'. -/
def fnExactDistanceOfCard : Claim7 := { stood := { row := fnExactDistanceOfRow, standIns := [], harness := (true, "4c28491d431a01f5ea804ce4ae9b94c90bbdffa5c3309c0f31fc6d5c6fa64142"), looks := false }, kinds := [], alts := [], laidByText := true, laidKinds := [.data, .pinned], laidTests := true, laidLooks := .later }
def FnExactDistanceOfCardSaid : Prop := Claim7.holds Tryd.pinned (.plain (OpenSpec.ofChange fnExactDistanceOfSpec)) fnExactDistanceOfCard

/-- THE TIED CARD OF 'laws.FnExactPairLists'. -/
def fnExactPairListsCard : Claim7 := { stood := { row := fnExactPairListsRow, standIns := [], harness := (true, "4c28491d431a01f5ea804ce4ae9b94c90bbdffa5c3309c0f31fc6d5c6fa64142"), looks := false }, kinds := [], alts := [], laidByText := true, laidKinds := [.data, .pinned], laidTests := true, laidLooks := .later }
def FnExactPairListsCardSaid : Prop := Claim7.holds Tryd.pinned (.plain (OpenSpec.ofChange fnExactPairListsSpec)) fnExactPairListsCard

/-- THE TIED CARD OF 'laws.FnExactDisjointSum'. -/
def fnExactDisjointSumCard : Claim7 := { stood := { row := fnExactDisjointSumRow, standIns := [], harness := (true, "4c28491d431a01f5ea804ce4ae9b94c90bbdffa5c3309c0f31fc6d5c6fa64142"), looks := false }, kinds := [], alts := [], laidByText := true, laidKinds := [.data, .pinned], laidTests := true, laidLooks := .later }
def FnExactDisjointSumCardSaid : Prop := Claim7.holds Tryd.pinned (.plain (OpenSpec.ofChange fnExactDisjointSumSpec)) fnExactDisjointSumCard

/-- THE TIED CARD OF 'laws.FnExactOrderedSum'. -/
def fnExactOrderedSumCard : Claim7 := { stood := { row := fnExactOrderedSumRow, standIns := [], harness := (true, "4c28491d431a01f5ea804ce4ae9b94c90bbdffa5c3309c0f31fc6d5c6fa64142"), looks := false }, kinds := [], alts := [], laidByText := true, laidKinds := [.data, .pinned], laidTests := true, laidLooks := .later }
def FnExactOrderedSumCardSaid : Prop := Claim7.holds Tryd.pinned (.plain (OpenSpec.ofChange fnExactOrderedSumSpec)) fnExactOrderedSumCard

/-- THE SECOND FORM's CARD OF 'laws.FnExactDistanceFormula'. -/
def fnExactDistanceFormulaUptoCard : Claim7 := { stood := { row := fnExactDistanceFormulaUptoRow, standIns := [], harness := (true, "4c28491d431a01f5ea804ce4ae9b94c90bbdffa5c3309c0f31fc6d5c6fa64142"), looks := false }, kinds := [], alts := [], laidByText := true, laidKinds := [.data, .pinned], laidTests := true, laidLooks := .later }
def FnExactDistanceFormulaUptoCardSaid : Prop := Claim7.holds Tryd.pinned (.plain (OpenSpec.upto fnExactDistanceFormulaSpec)) fnExactDistanceFormulaUptoCard

/-- THE SECOND FORM's CARD OF 'laws.FnExactPairPlace'. -/
def fnExactPairPlaceUptoCard : Claim7 := { stood := { row := fnExactPairPlaceUptoRow, standIns := [], harness := (true, "4c28491d431a01f5ea804ce4ae9b94c90bbdffa5c3309c0f31fc6d5c6fa64142"), looks := false }, kinds := [], alts := [], laidByText := true, laidKinds := [.data, .pinned], laidTests := true, laidLooks := .later }
def FnExactPairPlaceUptoCardSaid : Prop := Claim7.holds Tryd.pinned (.plain (OpenSpec.upto fnExactPairPlaceSpec)) fnExactPairPlaceUptoCard

/-- THE SECOND FORM's CARD OF 'laws.FnExactNearOf'. -/
def fnExactNearOfUptoCard : Claim7 := { stood := { row := fnExactNearOfUptoRow, standIns := [], harness := (true, "4c28491d431a01f5ea804ce4ae9b94c90bbdffa5c3309c0f31fc6d5c6fa64142"), looks := false }, kinds := [], alts := [], laidByText := true, laidKinds := [.data, .pinned], laidTests := true, laidLooks := .later }
def FnExactNearOfUptoCardSaid : Prop := Claim7.holds Tryd.pinned (.plain (OpenSpec.upto fnExactNearOfSpec)) fnExactNearOfUptoCard

/-- THE SECOND FORM's CARD OF 'laws.FnExactProductOf'. -/
def fnExactProductOfUptoCard : Claim7 := { stood := { row := fnExactProductOfUptoRow, standIns := [], harness := (true, "4c28491d431a01f5ea804ce4ae9b94c90bbdffa5c3309c0f31fc6d5c6fa64142"), looks := false }, kinds := [], alts := [], laidByText := true, laidKinds := [.data, .pinned], laidTests := true, laidLooks := .later }
def FnExactProductOfUptoCardSaid : Prop := Claim7.holds Tryd.pinned (.plain (OpenSpec.upto fnExactProductOfSpec)) fnExactProductOfUptoCard

/-- THE SECOND FORM's CARD OF 'laws.FnExactDistanceOf'. -/
def fnExactDistanceOfUptoCard : Claim7 := { stood := { row := fnExactDistanceOfUptoRow, standIns := [], harness := (true, "4c28491d431a01f5ea804ce4ae9b94c90bbdffa5c3309c0f31fc6d5c6fa64142"), looks := false }, kinds := [], alts := [], laidByText := true, laidKinds := [.data, .pinned], laidTests := true, laidLooks := .later }
def FnExactDistanceOfUptoCardSaid : Prop := Claim7.holds Tryd.pinned (.plain (OpenSpec.upto fnExactDistanceOfSpec)) fnExactDistanceOfUptoCard

/-- THE SECOND FORM's CARD OF 'laws.FnExactPairLists'. -/
def fnExactPairListsUptoCard : Claim7 := { stood := { row := fnExactPairListsUptoRow, standIns := [], harness := (true, "4c28491d431a01f5ea804ce4ae9b94c90bbdffa5c3309c0f31fc6d5c6fa64142"), looks := false }, kinds := [], alts := [], laidByText := true, laidKinds := [.data, .pinned], laidTests := true, laidLooks := .later }
def FnExactPairListsUptoCardSaid : Prop := Claim7.holds Tryd.pinned (.plain (OpenSpec.upto fnExactPairListsSpec)) fnExactPairListsUptoCard

/-- THE SECOND FORM's CARD OF 'laws.FnExactDisjointSum'. -/
def fnExactDisjointSumUptoCard : Claim7 := { stood := { row := fnExactDisjointSumUptoRow, standIns := [], harness := (true, "4c28491d431a01f5ea804ce4ae9b94c90bbdffa5c3309c0f31fc6d5c6fa64142"), looks := false }, kinds := [], alts := [], laidByText := true, laidKinds := [.data, .pinned], laidTests := true, laidLooks := .later }
def FnExactDisjointSumUptoCardSaid : Prop := Claim7.holds Tryd.pinned (.plain (OpenSpec.upto fnExactDisjointSumSpec)) fnExactDisjointSumUptoCard

/-- THE SECOND FORM's CARD OF 'laws.FnExactOrderedSum'. -/
def fnExactOrderedSumUptoCard : Claim7 := { stood := { row := fnExactOrderedSumUptoRow, standIns := [], harness := (true, "4c28491d431a01f5ea804ce4ae9b94c90bbdffa5c3309c0f31fc6d5c6fa64142"), looks := false }, kinds := [], alts := [], laidByText := true, laidKinds := [.data, .pinned], laidTests := true, laidLooks := .later }
def FnExactOrderedSumUptoCardSaid : Prop := Claim7.holds Tryd.pinned (.plain (OpenSpec.upto fnExactOrderedSumSpec)) fnExactOrderedSumUptoCard
end Rows
end Go.Proofs.YtpjfpiohhgoeaaaDoor
