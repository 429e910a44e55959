/-
  DERIVED. GIVEN WITH THE SEED: THE CARDS: each row of YtgdfphcggjclkaaDoorRows.lean that lists a variable, with what it lists TIED to the program's text (the seventh form; the later family's looks); each row that meets fmt, with fmt's text TOLD by the authors' own Lean function (tested against real Go, not proved from fmt's source: count such statements apart). THE CARD IS WHAT COUNTS. Prove the row's statement (the work); the ties are given (YtgdfphcggjclkaaDoorTie.lean); close each card by the builder's one call (the guide's Derived/Test/ToyasCard.lean, 'card_holds'). Laid BY PROGRAM, IN A SANDBOX (cutbox-door.mjs). By AI agents, Wed Nov 11 2026. No macro, syntax, notation, axiom, sorry.
-/
import Derived.Test.YtgdfphcggjclkaaDoorRows
import GoSem.ClaimSeven
namespace Go.Proofs.YtgdfphcggjclkaaDoor
namespace Rows

/-- THE TIED CARD OF 'consistorylaw03.PolyWeights'. -/
def polyWeightsCard : Claim7 := { stood := { row := polyWeightsRow, standIns := [], harness := (true, "a006f5679b58dd8ed8ae6aaddb864bba6946a902c2f0306773bd6232d2a9d758"), looks := false }, kinds := [], alts := [], laidByText := true, laidKinds := [.data, .data], laidTests := true, laidLooks := .later }
def PolyWeightsCardSaid : Prop := Claim7.holds Tryd.pinned (.plain (OpenSpec.ofChange polyWeightsSpec)) polyWeightsCard

/-- THE TIED CARD OF 'consistorylaw03.PolyRoots'. -/
def polyRootsCard : Claim7 := { stood := { row := polyRootsRow, standIns := [], harness := (true, "a006f5679b58dd8ed8ae6aaddb864bba6946a902c2f0306773bd6232d2a9d758"), looks := false }, kinds := [], alts := [], laidByText := true, laidKinds := [.data, .data], laidTests := true, laidLooks := .later }
def PolyRootsCardSaid : Prop := Claim7.holds Tryd.pinned (.plain (OpenSpec.ofChange polyRootsSpec)) polyRootsCard

/-- THE TIED CARD OF 'consistorylaw03.PolyValues'. -/
def polyValuesCard : Claim7 := { stood := { row := polyValuesRow, standIns := [], harness := (true, "a006f5679b58dd8ed8ae6aaddb864bba6946a902c2f0306773bd6232d2a9d758"), looks := false }, kinds := [], alts := [], laidByText := true, laidKinds := [.data, .data], laidTests := true, laidLooks := .later }
def PolyValuesCardSaid : Prop := Claim7.holds Tryd.pinned (.plain (OpenSpec.ofChange polyValuesSpec)) polyValuesCard

/-- THE TIED CARD OF 'consistorylaw03.PolyOnly'. -/
def polyOnlyCard : Claim7 := { stood := { row := polyOnlyRow, standIns := [], harness := (true, "a006f5679b58dd8ed8ae6aaddb864bba6946a902c2f0306773bd6232d2a9d758"), looks := false }, kinds := [], alts := [], laidByText := true, laidKinds := [.data, .data], laidTests := true, laidLooks := .later }
def PolyOnlyCardSaid : Prop := Claim7.holds Tryd.pinned (.plain (OpenSpec.ofChange polyOnlySpec)) polyOnlyCard

/-- THE TIED CARD OF 'consistorylaw06.BivarBack'. -/
def bivarBackCard : Claim7 := { stood := { row := bivarBackRow, standIns := [], harness := (true, "a006f5679b58dd8ed8ae6aaddb864bba6946a902c2f0306773bd6232d2a9d758"), looks := false }, kinds := [], alts := [], laidByText := true, laidKinds := [.data, .data], laidTests := true, laidLooks := .later }
def BivarBackCardSaid : Prop := Claim7.holds Tryd.pinned (.plain (OpenSpec.ofChange bivarBackSpec)) bivarBackCard

/-- THE TIED CARD OF 'consistorylaw06.BivarColumns'. -/
def bivarColumnsCard : Claim7 := { stood := { row := bivarColumnsRow, standIns := [], harness := (true, "a006f5679b58dd8ed8ae6aaddb864bba6946a902c2f0306773bd6232d2a9d758"), looks := false }, kinds := [], alts := [], laidByText := true, laidKinds := [.data, .data], laidTests := true, laidLooks := .later }
def BivarColumnsCardSaid : Prop := Claim7.holds Tryd.pinned (.plain (OpenSpec.ofChange bivarColumnsSpec)) bivarColumnsCard

/-- THE TIED CARD OF 'consistorylaw06.BivarHidden'. -/
def bivarHiddenCard : Claim7 := { stood := { row := bivarHiddenRow, standIns := [], harness := (true, "a006f5679b58dd8ed8ae6aaddb864bba6946a902c2f0306773bd6232d2a9d758"), looks := false }, kinds := [], alts := [], laidByText := true, laidKinds := [.data, .data], laidTests := true, laidLooks := .later }
def BivarHiddenCardSaid : Prop := Claim7.holds Tryd.pinned (.plain (OpenSpec.ofChange bivarHiddenSpec)) bivarHiddenCard

/-- THE TIED CARD OF 'consistorylaw04.RankTells'. -/
def rankTellsCard : Claim7 := { stood := { row := rankTellsRow, standIns := [], harness := (true, "a006f5679b58dd8ed8ae6aaddb864bba6946a902c2f0306773bd6232d2a9d758"), looks := false }, kinds := [], alts := [], laidByText := true, laidKinds := [.data, .data], laidTests := true, laidLooks := .later }
def RankTellsCardSaid : Prop := Claim7.holds Tryd.pinned (.plain (OpenSpec.ofChange rankTellsSpec)) rankTellsCard

/-- THE TIED CARD OF 'consistorylaw04.RankSolves'. -/
def rankSolvesCard : Claim7 := { stood := { row := rankSolvesRow, standIns := [], harness := (true, "a006f5679b58dd8ed8ae6aaddb864bba6946a902c2f0306773bd6232d2a9d758"), looks := false }, kinds := [], alts := [], laidByText := true, laidKinds := [.data, .data], laidTests := true, laidLooks := .later }
def RankSolvesCardSaid : Prop := Claim7.holds Tryd.pinned (.plain (OpenSpec.ofChange rankSolvesSpec)) rankSolvesCard

/-- THE TIED CARD OF 'consistorylaw04.RankMore'. -/
def rankMoreCard : Claim7 := { stood := { row := rankMoreRow, standIns := [], harness := (true, "a006f5679b58dd8ed8ae6aaddb864bba6946a902c2f0306773bd6232d2a9d758"), looks := false }, kinds := [], alts := [], laidByText := true, laidKinds := [.data, .data], laidTests := true, laidLooks := .later }
def RankMoreCardSaid : Prop := Claim7.holds Tryd.pinned (.plain (OpenSpec.ofChange rankMoreSpec)) rankMoreCard

/-- THE TIED CARD OF 'consistorylaw04.RankShared'. -/
def rankSharedCard : Claim7 := { stood := { row := rankSharedRow, standIns := [], harness := (true, "a006f5679b58dd8ed8ae6aaddb864bba6946a902c2f0306773bd6232d2a9d758"), looks := false }, kinds := [], alts := [], laidByText := true, laidKinds := [.data, .data], laidTests := true, laidLooks := .later }
def RankSharedCardSaid : Prop := Claim7.holds Tryd.pinned (.plain (OpenSpec.ofChange rankSharedSpec)) rankSharedCard

/-- THE TIED CARD OF 'consistorylaw04.RankTurned'. -/
def rankTurnedCard : Claim7 := { stood := { row := rankTurnedRow, standIns := [], harness := (true, "a006f5679b58dd8ed8ae6aaddb864bba6946a902c2f0306773bd6232d2a9d758"), looks := false }, kinds := [], alts := [], laidByText := true, laidKinds := [.data, .data], laidTests := true, laidLooks := .later }
def RankTurnedCardSaid : Prop := Claim7.holds Tryd.pinned (.plain (OpenSpec.ofChange rankTurnedSpec)) rankTurnedCard

/-- THE TIED CARD OF 'consistorylaw04.RankWays'. -/
def rankWaysCard : Claim7 := { stood := { row := rankWaysRow, standIns := [], harness := (true, "a006f5679b58dd8ed8ae6aaddb864bba6946a902c2f0306773bd6232d2a9d758"), looks := false }, kinds := [], alts := [], laidByText := true, laidKinds := [.data, .data], laidTests := true, laidLooks := .later }
def RankWaysCardSaid : Prop := Claim7.holds Tryd.pinned (.plain (OpenSpec.ofChange rankWaysSpec)) rankWaysCard

/-- THE TIED CARD OF 'consistorylaw04.RankSolved'. -/
def rankSolvedCard : Claim7 := { stood := { row := rankSolvedRow, standIns := [], harness := (true, "a006f5679b58dd8ed8ae6aaddb864bba6946a902c2f0306773bd6232d2a9d758"), looks := false }, kinds := [], alts := [], laidByText := true, laidKinds := [.data, .data], laidTests := true, laidLooks := .later }
def RankSolvedCardSaid : Prop := Claim7.holds Tryd.pinned (.plain (OpenSpec.ofChange rankSolvedSpec)) rankSolvedCard

/-- THE SECOND FORM's CARD OF 'consistorylaw03.PolyWeights'. -/
def polyWeightsUptoCard : Claim7 := { stood := { row := polyWeightsUptoRow, standIns := [], harness := (true, "a006f5679b58dd8ed8ae6aaddb864bba6946a902c2f0306773bd6232d2a9d758"), looks := false }, kinds := [], alts := [], laidByText := true, laidKinds := [.data, .data], laidTests := true, laidLooks := .later }
def PolyWeightsUptoCardSaid : Prop := Claim7.holds Tryd.pinned (.plain (OpenSpec.upto polyWeightsSpec)) polyWeightsUptoCard

/-- THE SECOND FORM's CARD OF 'consistorylaw03.PolyRoots'. -/
def polyRootsUptoCard : Claim7 := { stood := { row := polyRootsUptoRow, standIns := [], harness := (true, "a006f5679b58dd8ed8ae6aaddb864bba6946a902c2f0306773bd6232d2a9d758"), looks := false }, kinds := [], alts := [], laidByText := true, laidKinds := [.data, .data], laidTests := true, laidLooks := .later }
def PolyRootsUptoCardSaid : Prop := Claim7.holds Tryd.pinned (.plain (OpenSpec.upto polyRootsSpec)) polyRootsUptoCard

/-- THE SECOND FORM's CARD OF 'consistorylaw03.PolyValues'. -/
def polyValuesUptoCard : Claim7 := { stood := { row := polyValuesUptoRow, standIns := [], harness := (true, "a006f5679b58dd8ed8ae6aaddb864bba6946a902c2f0306773bd6232d2a9d758"), looks := false }, kinds := [], alts := [], laidByText := true, laidKinds := [.data, .data], laidTests := true, laidLooks := .later }
def PolyValuesUptoCardSaid : Prop := Claim7.holds Tryd.pinned (.plain (OpenSpec.upto polyValuesSpec)) polyValuesUptoCard

/-- THE SECOND FORM's CARD OF 'consistorylaw03.PolyOnly'. -/
def polyOnlyUptoCard : Claim7 := { stood := { row := polyOnlyUptoRow, standIns := [], harness := (true, "a006f5679b58dd8ed8ae6aaddb864bba6946a902c2f0306773bd6232d2a9d758"), looks := false }, kinds := [], alts := [], laidByText := true, laidKinds := [.data, .data], laidTests := true, laidLooks := .later }
def PolyOnlyUptoCardSaid : Prop := Claim7.holds Tryd.pinned (.plain (OpenSpec.upto polyOnlySpec)) polyOnlyUptoCard

/-- THE SECOND FORM's CARD OF 'consistorylaw06.BivarBack'. -/
def bivarBackUptoCard : Claim7 := { stood := { row := bivarBackUptoRow, standIns := [], harness := (true, "a006f5679b58dd8ed8ae6aaddb864bba6946a902c2f0306773bd6232d2a9d758"), looks := false }, kinds := [], alts := [], laidByText := true, laidKinds := [.data, .data], laidTests := true, laidLooks := .later }
def BivarBackUptoCardSaid : Prop := Claim7.holds Tryd.pinned (.plain (OpenSpec.upto bivarBackSpec)) bivarBackUptoCard

/-- THE SECOND FORM's CARD OF 'consistorylaw06.BivarColumns'. -/
def bivarColumnsUptoCard : Claim7 := { stood := { row := bivarColumnsUptoRow, standIns := [], harness := (true, "a006f5679b58dd8ed8ae6aaddb864bba6946a902c2f0306773bd6232d2a9d758"), looks := false }, kinds := [], alts := [], laidByText := true, laidKinds := [.data, .data], laidTests := true, laidLooks := .later }
def BivarColumnsUptoCardSaid : Prop := Claim7.holds Tryd.pinned (.plain (OpenSpec.upto bivarColumnsSpec)) bivarColumnsUptoCard

/-- THE SECOND FORM's CARD OF 'consistorylaw06.BivarHidden'. -/
def bivarHiddenUptoCard : Claim7 := { stood := { row := bivarHiddenUptoRow, standIns := [], harness := (true, "a006f5679b58dd8ed8ae6aaddb864bba6946a902c2f0306773bd6232d2a9d758"), looks := false }, kinds := [], alts := [], laidByText := true, laidKinds := [.data, .data], laidTests := true, laidLooks := .later }
def BivarHiddenUptoCardSaid : Prop := Claim7.holds Tryd.pinned (.plain (OpenSpec.upto bivarHiddenSpec)) bivarHiddenUptoCard

/-- THE SECOND FORM's CARD OF 'consistorylaw04.RankTells'. -/
def rankTellsUptoCard : Claim7 := { stood := { row := rankTellsUptoRow, standIns := [], harness := (true, "a006f5679b58dd8ed8ae6aaddb864bba6946a902c2f0306773bd6232d2a9d758"), looks := false }, kinds := [], alts := [], laidByText := true, laidKinds := [.data, .data], laidTests := true, laidLooks := .later }
def RankTellsUptoCardSaid : Prop := Claim7.holds Tryd.pinned (.plain (OpenSpec.upto rankTellsSpec)) rankTellsUptoCard

/-- THE SECOND FORM's CARD OF 'consistorylaw04.RankSolves'. -/
def rankSolvesUptoCard : Claim7 := { stood := { row := rankSolvesUptoRow, standIns := [], harness := (true, "a006f5679b58dd8ed8ae6aaddb864bba6946a902c2f0306773bd6232d2a9d758"), looks := false }, kinds := [], alts := [], laidByText := true, laidKinds := [.data, .data], laidTests := true, laidLooks := .later }
def RankSolvesUptoCardSaid : Prop := Claim7.holds Tryd.pinned (.plain (OpenSpec.upto rankSolvesSpec)) rankSolvesUptoCard

/-- THE SECOND FORM's CARD OF 'consistorylaw04.RankMore'. -/
def rankMoreUptoCard : Claim7 := { stood := { row := rankMoreUptoRow, standIns := [], harness := (true, "a006f5679b58dd8ed8ae6aaddb864bba6946a902c2f0306773bd6232d2a9d758"), looks := false }, kinds := [], alts := [], laidByText := true, laidKinds := [.data, .data], laidTests := true, laidLooks := .later }
def RankMoreUptoCardSaid : Prop := Claim7.holds Tryd.pinned (.plain (OpenSpec.upto rankMoreSpec)) rankMoreUptoCard

/-- THE SECOND FORM's CARD OF 'consistorylaw04.RankShared'. -/
def rankSharedUptoCard : Claim7 := { stood := { row := rankSharedUptoRow, standIns := [], harness := (true, "a006f5679b58dd8ed8ae6aaddb864bba6946a902c2f0306773bd6232d2a9d758"), looks := false }, kinds := [], alts := [], laidByText := true, laidKinds := [.data, .data], laidTests := true, laidLooks := .later }
def RankSharedUptoCardSaid : Prop := Claim7.holds Tryd.pinned (.plain (OpenSpec.upto rankSharedSpec)) rankSharedUptoCard

/-- THE SECOND FORM's CARD OF 'consistorylaw04.RankTurned'. -/
def rankTurnedUptoCard : Claim7 := { stood := { row := rankTurnedUptoRow, standIns := [], harness := (true, "a006f5679b58dd8ed8ae6aaddb864bba6946a902c2f0306773bd6232d2a9d758"), looks := false }, kinds := [], alts := [], laidByText := true, laidKinds := [.data, .data], laidTests := true, laidLooks := .later }
def RankTurnedUptoCardSaid : Prop := Claim7.holds Tryd.pinned (.plain (OpenSpec.upto rankTurnedSpec)) rankTurnedUptoCard

/-- THE SECOND FORM's CARD OF 'consistorylaw04.RankWays'. -/
def rankWaysUptoCard : Claim7 := { stood := { row := rankWaysUptoRow, standIns := [], harness := (true, "a006f5679b58dd8ed8ae6aaddb864bba6946a902c2f0306773bd6232d2a9d758"), looks := false }, kinds := [], alts := [], laidByText := true, laidKinds := [.data, .data], laidTests := true, laidLooks := .later }
def RankWaysUptoCardSaid : Prop := Claim7.holds Tryd.pinned (.plain (OpenSpec.upto rankWaysSpec)) rankWaysUptoCard

/-- THE SECOND FORM's CARD OF 'consistorylaw04.RankSolved'. -/
def rankSolvedUptoCard : Claim7 := { stood := { row := rankSolvedUptoRow, standIns := [], harness := (true, "a006f5679b58dd8ed8ae6aaddb864bba6946a902c2f0306773bd6232d2a9d758"), looks := false }, kinds := [], alts := [], laidByText := true, laidKinds := [.data, .data], laidTests := true, laidLooks := .later }
def RankSolvedUptoCardSaid : Prop := Claim7.holds Tryd.pinned (.plain (OpenSpec.upto rankSolvedSpec)) rankSolvedUptoCard
end Rows
end Go.Proofs.YtgdfphcggjclkaaDoor
