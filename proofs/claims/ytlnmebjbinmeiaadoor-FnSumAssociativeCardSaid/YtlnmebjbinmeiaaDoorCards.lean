/-
  DERIVED. GIVEN WITH THE SEED: THE CARDS: each row of YtlnmebjbinmeiaaDoorRows.lean that lists a variable, with what it lists TIED to the program's text (the seventh form; the later family's looks); each row that meets fmt, with fmt's text TOLD by the authors' own Lean function (tested against real Go, not proved from fmt's source: count such statements apart). THE CARD IS WHAT COUNTS. Prove the row's statement (the work); the ties are given (YtlnmebjbinmeiaaDoorTie.lean); close each card by the builder's one call (the guide's Derived/Test/ToyasCard.lean, 'card_holds'). Laid BY PROGRAM, IN A SANDBOX (cutbox-door.mjs). By AI agents, Wed Nov 11 2026. No macro, syntax, notation, axiom, sorry.
-/
import Derived.Test.YtlnmebjbinmeiaaDoorRows
import GoSem.ClaimSeven
namespace Go.Proofs.YtlnmebjbinmeiaaDoor
namespace Rows

/-- THE TIED CARD OF 'laws.FnExactCopiesOf'. -/
def fnExactCopiesOfCard : Claim7 := { stood := { row := fnExactCopiesOfRow, standIns := [], harness := (true, "615531dc265447b1236c4d8a53f6514031071fd84adb36eec551eb3b9d564781"), looks := false }, kinds := [], alts := [], laidByText := true, laidKinds := [.data, .pinned], laidTests := true, laidLooks := .later }
def FnExactCopiesOfCardSaid : Prop := Claim7.holds Tryd.pinned (.plain (OpenSpec.ofChange fnExactCopiesOfSpec)) fnExactCopiesOfCard

/-- THE TIED CARD OF 'laws.FnExactPiecesOf'. -/
def fnExactPiecesOfCard : Claim7 := { stood := { row := fnExactPiecesOfRow, standIns := [], harness := (true, "615531dc265447b1236c4d8a53f6514031071fd84adb36eec551eb3b9d564781"), looks := false }, kinds := [], alts := [], laidByText := true, laidKinds := [.data, .pinned], laidTests := true, laidLooks := .later }
def FnExactPiecesOfCardSaid : Prop := Claim7.holds Tryd.pinned (.plain (OpenSpec.ofChange fnExactPiecesOfSpec)) fnExactPiecesOfCard

/-- THE TIED CARD OF 'laws.FnExactBallOf'. -/
def fnExactBallOfCard : Claim7 := { stood := { row := fnExactBallOfRow, standIns := [], harness := (true, "615531dc265447b1236c4d8a53f6514031071fd84adb36eec551eb3b9d564781"), looks := false }, kinds := [], alts := [], laidByText := true, laidKinds := [.data, .pinned], laidTests := true, laidLooks := .later }
def FnExactBallOfCardSaid : Prop := Claim7.holds Tryd.pinned (.plain (OpenSpec.ofChange fnExactBallOfSpec)) fnExactBallOfCard

/-- THE TIED CARD OF 'laws.FnExactSameBall'. -/
def fnExactSameBallCard : Claim7 := { stood := { row := fnExactSameBallRow, standIns := [], harness := (true, "615531dc265447b1236c4d8a53f6514031071fd84adb36eec551eb3b9d564781"), looks := false }, kinds := [], alts := [], laidByText := true, laidKinds := [.data, .pinned], laidTests := true, laidLooks := .later }
def FnExactSameBallCardSaid : Prop := Claim7.holds Tryd.pinned (.plain (OpenSpec.ofChange fnExactSameBallSpec)) fnExactSameBallCard

/-- THE TIED CARD OF 'laws.FnExactSameBalls'. -/
def fnExactSameBallsCard : Claim7 := { stood := { row := fnExactSameBallsRow, standIns := [], harness := (true, "615531dc265447b1236c4d8a53f6514031071fd84adb36eec551eb3b9d564781"), looks := false }, kinds := [], alts := [], laidByText := true, laidKinds := [.data, .pinned], laidTests := true, laidLooks := .later }
def FnExactSameBallsCardSaid : Prop := Claim7.holds Tryd.pinned (.plain (OpenSpec.ofChange fnExactSameBallsSpec)) fnExactSameBallsCard

/-- THE TIED CARD OF 'laws.FnExactBallClasses'. -/
def fnExactBallClassesCard : Claim7 := { stood := { row := fnExactBallClassesRow, standIns := [], harness := (true, "615531dc265447b1236c4d8a53f6514031071fd84adb36eec551eb3b9d564781"), looks := false }, kinds := [], alts := [], laidByText := true, laidKinds := [.data, .pinned], laidTests := true, laidLooks := .later }
def FnExactBallClassesCardSaid : Prop := Claim7.holds Tryd.pinned (.plain (OpenSpec.ofChange fnExactBallClassesSpec)) fnExactBallClassesCard

/-- THE TIED CARD OF 'laws.FnSumAssociative'. -/
def fnSumAssociativeCard : Claim7 := { stood := { row := fnSumAssociativeRow, standIns := [], harness := (true, "615531dc265447b1236c4d8a53f6514031071fd84adb36eec551eb3b9d564781"), looks := false }, kinds := [], alts := [], laidByText := true, laidKinds := [.data, .pinned], laidTests := true, laidLooks := .later }
def FnSumAssociativeCardSaid : Prop := Claim7.holds Tryd.pinned (.plain (OpenSpec.ofChange fnSumAssociativeSpec)) fnSumAssociativeCard

/-- THE TIED CARD OF 'laws.FnProductOf'. -/
def fnProductOfCard : Claim7 := { stood := { row := fnProductOfRow, standIns := [], harness := (true, "615531dc265447b1236c4d8a53f6514031071fd84adb36eec551eb3b9d564781"), looks := false }, kinds := [], alts := [], laidByText := true, laidKinds := [.data, .pinned], laidTests := true, laidLooks := .later }
def FnProductOfCardSaid : Prop := Claim7.holds Tryd.pinned (.plain (OpenSpec.ofChange fnProductOfSpec)) fnProductOfCard

/-- THE TIED CARD OF 'laws.FnDistanceOf'. -/
def fnDistanceOfCard : Claim7 := { stood := { row := fnDistanceOfRow, standIns := [], harness := (true, "615531dc265447b1236c4d8a53f6514031071fd84adb36eec551eb3b9d564781"), looks := false }, kinds := [], alts := [], laidByText := true, laidKinds := [.data, .pinned], laidTests := true, laidLooks := .later }
def FnDistanceOfCardSaid : Prop := Claim7.holds Tryd.pinned (.plain (OpenSpec.ofChange fnDistanceOfSpec)) fnDistanceOfCard

/-- THE TIED CARD OF 'laws.FnNearOf'. -/
def fnNearOfCard : Claim7 := { stood := { row := fnNearOfRow, standIns := [], harness := (true, "615531dc265447b1236c4d8a53f6514031071fd84adb36eec551eb3b9d564781"), looks := false }, kinds := [], alts := [], laidByText := true, laidKinds := [.data, .pinned], laidTests := true, laidLooks := .later }
def FnNearOfCardSaid : Prop := Claim7.holds Tryd.pinned (.plain (OpenSpec.ofChange fnNearOfSpec)) fnNearOfCard

/-- THE TIED CARD OF 'laws.FnPieces'. -/
def fnPiecesCard : Claim7 := { stood := { row := fnPiecesRow, standIns := [], harness := (true, "615531dc265447b1236c4d8a53f6514031071fd84adb36eec551eb3b9d564781"), looks := false }, kinds := [], alts := [], laidByText := true, laidKinds := [.data, .pinned], laidTests := true, laidLooks := .later }
def FnPiecesCardSaid : Prop := Claim7.holds Tryd.pinned (.plain (OpenSpec.ofChange fnPiecesSpec)) fnPiecesCard

/-- THE TIED CARD OF 'laws.FnBallOf'. -/
def fnBallOfCard : Claim7 := { stood := { row := fnBallOfRow, standIns := [], harness := (true, "615531dc265447b1236c4d8a53f6514031071fd84adb36eec551eb3b9d564781"), looks := false }, kinds := [], alts := [], laidByText := true, laidKinds := [.data, .pinned], laidTests := true, laidLooks := .later }
def FnBallOfCardSaid : Prop := Claim7.holds Tryd.pinned (.plain (OpenSpec.ofChange fnBallOfSpec)) fnBallOfCard

/-- THE SECOND FORM's CARD OF 'laws.FnExactCopiesOf'. -/
def fnExactCopiesOfUptoCard : Claim7 := { stood := { row := fnExactCopiesOfUptoRow, standIns := [], harness := (true, "615531dc265447b1236c4d8a53f6514031071fd84adb36eec551eb3b9d564781"), looks := false }, kinds := [], alts := [], laidByText := true, laidKinds := [.data, .pinned], laidTests := true, laidLooks := .later }
def FnExactCopiesOfUptoCardSaid : Prop := Claim7.holds Tryd.pinned (.plain (OpenSpec.upto fnExactCopiesOfSpec)) fnExactCopiesOfUptoCard

/-- THE SECOND FORM's CARD OF 'laws.FnExactPiecesOf'. -/
def fnExactPiecesOfUptoCard : Claim7 := { stood := { row := fnExactPiecesOfUptoRow, standIns := [], harness := (true, "615531dc265447b1236c4d8a53f6514031071fd84adb36eec551eb3b9d564781"), looks := false }, kinds := [], alts := [], laidByText := true, laidKinds := [.data, .pinned], laidTests := true, laidLooks := .later }
def FnExactPiecesOfUptoCardSaid : Prop := Claim7.holds Tryd.pinned (.plain (OpenSpec.upto fnExactPiecesOfSpec)) fnExactPiecesOfUptoCard

/-- THE SECOND FORM's CARD OF 'laws.FnExactBallOf'. -/
def fnExactBallOfUptoCard : Claim7 := { stood := { row := fnExactBallOfUptoRow, standIns := [], harness := (true, "615531dc265447b1236c4d8a53f6514031071fd84adb36eec551eb3b9d564781"), looks := false }, kinds := [], alts := [], laidByText := true, laidKinds := [.data, .pinned], laidTests := true, laidLooks := .later }
def FnExactBallOfUptoCardSaid : Prop := Claim7.holds Tryd.pinned (.plain (OpenSpec.upto fnExactBallOfSpec)) fnExactBallOfUptoCard

/-- THE SECOND FORM's CARD OF 'laws.FnExactSameBall'. -/
def fnExactSameBallUptoCard : Claim7 := { stood := { row := fnExactSameBallUptoRow, standIns := [], harness := (true, "615531dc265447b1236c4d8a53f6514031071fd84adb36eec551eb3b9d564781"), looks := false }, kinds := [], alts := [], laidByText := true, laidKinds := [.data, .pinned], laidTests := true, laidLooks := .later }
def FnExactSameBallUptoCardSaid : Prop := Claim7.holds Tryd.pinned (.plain (OpenSpec.upto fnExactSameBallSpec)) fnExactSameBallUptoCard

/-- THE SECOND FORM's CARD OF 'laws.FnExactSameBalls'. -/
def fnExactSameBallsUptoCard : Claim7 := { stood := { row := fnExactSameBallsUptoRow, standIns := [], harness := (true, "615531dc265447b1236c4d8a53f6514031071fd84adb36eec551eb3b9d564781"), looks := false }, kinds := [], alts := [], laidByText := true, laidKinds := [.data, .pinned], laidTests := true, laidLooks := .later }
def FnExactSameBallsUptoCardSaid : Prop := Claim7.holds Tryd.pinned (.plain (OpenSpec.upto fnExactSameBallsSpec)) fnExactSameBallsUptoCard

/-- THE SECOND FORM's CARD OF 'laws.FnExactBallClasses'. -/
def fnExactBallClassesUptoCard : Claim7 := { stood := { row := fnExactBallClassesUptoRow, standIns := [], harness := (true, "615531dc265447b1236c4d8a53f6514031071fd84adb36eec551eb3b9d564781"), looks := false }, kinds := [], alts := [], laidByText := true, laidKinds := [.data, .pinned], laidTests := true, laidLooks := .later }
def FnExactBallClassesUptoCardSaid : Prop := Claim7.holds Tryd.pinned (.plain (OpenSpec.upto fnExactBallClassesSpec)) fnExactBallClassesUptoCard

/-- THE SECOND FORM's CARD OF 'laws.FnSumAssociative'. -/
def fnSumAssociativeUptoCard : Claim7 := { stood := { row := fnSumAssociativeUptoRow, standIns := [], harness := (true, "615531dc265447b1236c4d8a53f6514031071fd84adb36eec551eb3b9d564781"), looks := false }, kinds := [], alts := [], laidByText := true, laidKinds := [.data, .pinned], laidTests := true, laidLooks := .later }
def FnSumAssociativeUptoCardSaid : Prop := Claim7.holds Tryd.pinned (.plain (OpenSpec.upto fnSumAssociativeSpec)) fnSumAssociativeUptoCard

/-- THE SECOND FORM's CARD OF 'laws.FnProductOf'. -/
def fnProductOfUptoCard : Claim7 := { stood := { row := fnProductOfUptoRow, standIns := [], harness := (true, "615531dc265447b1236c4d8a53f6514031071fd84adb36eec551eb3b9d564781"), looks := false }, kinds := [], alts := [], laidByText := true, laidKinds := [.data, .pinned], laidTests := true, laidLooks := .later }
def FnProductOfUptoCardSaid : Prop := Claim7.holds Tryd.pinned (.plain (OpenSpec.upto fnProductOfSpec)) fnProductOfUptoCard

/-- THE SECOND FORM's CARD OF 'laws.FnDistanceOf'. -/
def fnDistanceOfUptoCard : Claim7 := { stood := { row := fnDistanceOfUptoRow, standIns := [], harness := (true, "615531dc265447b1236c4d8a53f6514031071fd84adb36eec551eb3b9d564781"), looks := false }, kinds := [], alts := [], laidByText := true, laidKinds := [.data, .pinned], laidTests := true, laidLooks := .later }
def FnDistanceOfUptoCardSaid : Prop := Claim7.holds Tryd.pinned (.plain (OpenSpec.upto fnDistanceOfSpec)) fnDistanceOfUptoCard

/-- THE SECOND FORM's CARD OF 'laws.FnNearOf'. -/
def fnNearOfUptoCard : Claim7 := { stood := { row := fnNearOfUptoRow, standIns := [], harness := (true, "615531dc265447b1236c4d8a53f6514031071fd84adb36eec551eb3b9d564781"), looks := false }, kinds := [], alts := [], laidByText := true, laidKinds := [.data, .pinned], laidTests := true, laidLooks := .later }
def FnNearOfUptoCardSaid : Prop := Claim7.holds Tryd.pinned (.plain (OpenSpec.upto fnNearOfSpec)) fnNearOfUptoCard

/-- THE SECOND FORM's CARD OF 'laws.FnPieces'. -/
def fnPiecesUptoCard : Claim7 := { stood := { row := fnPiecesUptoRow, standIns := [], harness := (true, "615531dc265447b1236c4d8a53f6514031071fd84adb36eec551eb3b9d564781"), looks := false }, kinds := [], alts := [], laidByText := true, laidKinds := [.data, .pinned], laidTests := true, laidLooks := .later }
def FnPiecesUptoCardSaid : Prop := Claim7.holds Tryd.pinned (.plain (OpenSpec.upto fnPiecesSpec)) fnPiecesUptoCard

/-- THE SECOND FORM's CARD OF 'laws.FnBallOf'. -/
def fnBallOfUptoCard : Claim7 := { stood := { row := fnBallOfUptoRow, standIns := [], harness := (true, "615531dc265447b1236c4d8a53f6514031071fd84adb36eec551eb3b9d564781"), looks := false }, kinds := [], alts := [], laidByText := true, laidKinds := [.data, .pinned], laidTests := true, laidLooks := .later }
def FnBallOfUptoCardSaid : Prop := Claim7.holds Tryd.pinned (.plain (OpenSpec.upto fnBallOfSpec)) fnBallOfUptoCard
end Rows
end Go.Proofs.YtlnmebjbinmeiaaDoor
