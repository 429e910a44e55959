/-
  DERIVED. GIVEN WITH THE SEED: THE CARDS: each row of YtcojnjhffmhbiaaDoorRows.lean that lists a variable, with what it lists TIED to the program's text (the seventh form; the later family's looks); each row that meets fmt, with fmt's text TOLD by the authors' own Lean function (tested against real Go, not proved from fmt's source: count such statements apart). THE CARD IS WHAT COUNTS. Prove the row's statement (the work); the ties are given (YtcojnjhffmhbiaaDoorTie.lean); close each card by the builder's one call (the guide's Derived/Test/ToyasCard.lean, 'card_holds'). Laid BY PROGRAM, IN A SANDBOX (cutbox-door.mjs). By AI agents, Wed Nov 11 2026. No macro, syntax, notation, axiom, sorry.
-/
import Derived.Test.YtcojnjhffmhbiaaDoorRows
import GoSem.ClaimSeven
namespace Go.Proofs.YtcojnjhffmhbiaaDoor
namespace Rows

/-- THE TIED CARD OF 'consistorylaw04.RankTells'. -/
def rankTellsCard : Claim7 := { stood := { row := rankTellsRow, standIns := [], harness := (true, "f020eeb781593d56daa69a7cc06e1420dedbbf0f68a61d84e8d3556648cc65e3"), looks := false }, kinds := [], alts := [], laidByText := true, laidKinds := [.data, .data], laidTests := true, laidLooks := .later }
def RankTellsCardSaid : Prop := Claim7.holds Tryd.pinned (.plain (OpenSpec.ofChange rankTellsSpec)) rankTellsCard

/-- THE TIED CARD OF 'consistorylaw04.RankSolves'. -/
def rankSolvesCard : Claim7 := { stood := { row := rankSolvesRow, standIns := [], harness := (true, "f020eeb781593d56daa69a7cc06e1420dedbbf0f68a61d84e8d3556648cc65e3"), looks := false }, kinds := [], alts := [], laidByText := true, laidKinds := [.data, .data], laidTests := true, laidLooks := .later }
def RankSolvesCardSaid : Prop := Claim7.holds Tryd.pinned (.plain (OpenSpec.ofChange rankSolvesSpec)) rankSolvesCard

/-- THE TIED CARD OF 'consistorylaw04.RankWays'. -/
def rankWaysCard : Claim7 := { stood := { row := rankWaysRow, standIns := [], harness := (true, "f020eeb781593d56daa69a7cc06e1420dedbbf0f68a61d84e8d3556648cc65e3"), looks := false }, kinds := [], alts := [], laidByText := true, laidKinds := [.data, .data], laidTests := true, laidLooks := .later }
def RankWaysCardSaid : Prop := Claim7.holds Tryd.pinned (.plain (OpenSpec.ofChange rankWaysSpec)) rankWaysCard

/-- THE TIED CARD OF 'consistorylaw04.RankSolved'. -/
def rankSolvedCard : Claim7 := { stood := { row := rankSolvedRow, standIns := [], harness := (true, "f020eeb781593d56daa69a7cc06e1420dedbbf0f68a61d84e8d3556648cc65e3"), looks := false }, kinds := [], alts := [], laidByText := true, laidKinds := [.data, .data], laidTests := true, laidLooks := .later }
def RankSolvedCardSaid : Prop := Claim7.holds Tryd.pinned (.plain (OpenSpec.ofChange rankSolvedSpec)) rankSolvedCard

/-- THE TIED CARD OF 'consistorylaw21.AdmitFollows'. -/
def admitFollowsCard : Claim7 := { stood := { row := admitFollowsRow, standIns := [], harness := (true, "f020eeb781593d56daa69a7cc06e1420dedbbf0f68a61d84e8d3556648cc65e3"), looks := false }, kinds := [], alts := [], laidByText := true, laidKinds := [.data, .data], laidTests := true, laidLooks := .later }
def AdmitFollowsCardSaid : Prop := Claim7.holds Tryd.pinned (.plain (OpenSpec.ofChange admitFollowsSpec)) admitFollowsCard

/-- THE TIED CARD OF 'consistorylaw21.AdmitRow'. -/
def admitRowCard : Claim7 := { stood := { row := admitRowRow, standIns := [], harness := (true, "f020eeb781593d56daa69a7cc06e1420dedbbf0f68a61d84e8d3556648cc65e3"), looks := false }, kinds := [], alts := [], laidByText := true, laidKinds := [.data, .data], laidTests := true, laidLooks := .later }
def AdmitRowCardSaid : Prop := Claim7.holds Tryd.pinned (.plain (OpenSpec.ofChange admitRowSpec)) admitRowCard

/-- THE TIED CARD OF 'consistorylaw06.BivarBack'. -/
def bivarBackCard : Claim7 := { stood := { row := bivarBackRow, standIns := [], harness := (true, "f020eeb781593d56daa69a7cc06e1420dedbbf0f68a61d84e8d3556648cc65e3"), looks := false }, kinds := [], alts := [], laidByText := true, laidKinds := [.data, .data], laidTests := true, laidLooks := .later }
def BivarBackCardSaid : Prop := Claim7.holds Tryd.pinned (.plain (OpenSpec.ofChange bivarBackSpec)) bivarBackCard

/-- THE TIED CARD OF 'consistorylaw06.BivarColumns'. -/
def bivarColumnsCard : Claim7 := { stood := { row := bivarColumnsRow, standIns := [], harness := (true, "f020eeb781593d56daa69a7cc06e1420dedbbf0f68a61d84e8d3556648cc65e3"), looks := false }, kinds := [], alts := [], laidByText := true, laidKinds := [.data, .data], laidTests := true, laidLooks := .later }
def BivarColumnsCardSaid : Prop := Claim7.holds Tryd.pinned (.plain (OpenSpec.ofChange bivarColumnsSpec)) bivarColumnsCard

/-- THE TIED CARD OF 'consistorylaw06.BivarHidden'. -/
def bivarHiddenCard : Claim7 := { stood := { row := bivarHiddenRow, standIns := [], harness := (true, "f020eeb781593d56daa69a7cc06e1420dedbbf0f68a61d84e8d3556648cc65e3"), looks := false }, kinds := [], alts := [], laidByText := true, laidKinds := [.data, .data], laidTests := true, laidLooks := .later }
def BivarHiddenCardSaid : Prop := Claim7.holds Tryd.pinned (.plain (OpenSpec.ofChange bivarHiddenSpec)) bivarHiddenCard

/-- THE TIED CARD OF 'consistorylaw05.RobustTells'. -/
def robustTellsCard : Claim7 := { stood := { row := robustTellsRow, standIns := [], harness := (true, "f020eeb781593d56daa69a7cc06e1420dedbbf0f68a61d84e8d3556648cc65e3"), looks := false }, kinds := [], alts := [], laidByText := true, laidKinds := [.data, .data], laidTests := true, laidLooks := .later }
def RobustTellsCardSaid : Prop := Claim7.holds Tryd.pinned (.plain (OpenSpec.ofChange robustTellsSpec)) robustTellsCard

/-- THE TIED CARD OF 'consistorylaw05.RobustFits'. -/
def robustFitsCard : Claim7 := { stood := { row := robustFitsRow, standIns := [], harness := (true, "f020eeb781593d56daa69a7cc06e1420dedbbf0f68a61d84e8d3556648cc65e3"), looks := false }, kinds := [], alts := [], laidByText := true, laidKinds := [.data, .data], laidTests := true, laidLooks := .later }
def RobustFitsCardSaid : Prop := Claim7.holds Tryd.pinned (.plain (OpenSpec.ofChange robustFitsSpec)) robustFitsCard

/-- THE TIED CARD OF 'consistorylaw05.RobustAlong'. -/
def robustAlongCard : Claim7 := { stood := { row := robustAlongRow, standIns := [], harness := (true, "f020eeb781593d56daa69a7cc06e1420dedbbf0f68a61d84e8d3556648cc65e3"), looks := false }, kinds := [], alts := [], laidByText := true, laidKinds := [.data, .data], laidTests := true, laidLooks := .later }
def RobustAlongCardSaid : Prop := Claim7.holds Tryd.pinned (.plain (OpenSpec.ofChange robustAlongSpec)) robustAlongCard

/-- THE TIED CARD OF 'consistorylaw05.RobustAhead'. -/
def robustAheadCard : Claim7 := { stood := { row := robustAheadRow, standIns := [], harness := (true, "f020eeb781593d56daa69a7cc06e1420dedbbf0f68a61d84e8d3556648cc65e3"), looks := false }, kinds := [], alts := [], laidByText := true, laidKinds := [.data, .data], laidTests := true, laidLooks := .later }
def RobustAheadCardSaid : Prop := Claim7.holds Tryd.pinned (.plain (OpenSpec.ofChange robustAheadSpec)) robustAheadCard

/-- THE TIED CARD OF 'consistorylaw21.AdmitBlind'. -/
def admitBlindCard : Claim7 := { stood := { row := admitBlindRow, standIns := [], harness := (true, "f020eeb781593d56daa69a7cc06e1420dedbbf0f68a61d84e8d3556648cc65e3"), looks := false }, kinds := [], alts := [], laidByText := true, laidKinds := [.data, .data], laidTests := true, laidLooks := .later }
def AdmitBlindCardSaid : Prop := Claim7.holds Tryd.pinned (.plain (OpenSpec.ofChange admitBlindSpec)) admitBlindCard

/-- THE TIED CARD OF 'consistorylaw21.AdmitTells'. -/
def admitTellsCard : Claim7 := { stood := { row := admitTellsRow, standIns := [], harness := (true, "f020eeb781593d56daa69a7cc06e1420dedbbf0f68a61d84e8d3556648cc65e3"), looks := false }, kinds := [], alts := [], laidByText := true, laidKinds := [.data, .data], laidTests := true, laidLooks := .later }
def AdmitTellsCardSaid : Prop := Claim7.holds Tryd.pinned (.plain (OpenSpec.ofChange admitTellsSpec)) admitTellsCard

/-- THE SECOND FORM's CARD OF 'consistorylaw04.RankTells'. -/
def rankTellsUptoCard : Claim7 := { stood := { row := rankTellsUptoRow, standIns := [], harness := (true, "f020eeb781593d56daa69a7cc06e1420dedbbf0f68a61d84e8d3556648cc65e3"), looks := false }, kinds := [], alts := [], laidByText := true, laidKinds := [.data, .data], laidTests := true, laidLooks := .later }
def RankTellsUptoCardSaid : Prop := Claim7.holds Tryd.pinned (.plain (OpenSpec.upto rankTellsSpec)) rankTellsUptoCard

/-- THE SECOND FORM's CARD OF 'consistorylaw04.RankSolves'. -/
def rankSolvesUptoCard : Claim7 := { stood := { row := rankSolvesUptoRow, standIns := [], harness := (true, "f020eeb781593d56daa69a7cc06e1420dedbbf0f68a61d84e8d3556648cc65e3"), looks := false }, kinds := [], alts := [], laidByText := true, laidKinds := [.data, .data], laidTests := true, laidLooks := .later }
def RankSolvesUptoCardSaid : Prop := Claim7.holds Tryd.pinned (.plain (OpenSpec.upto rankSolvesSpec)) rankSolvesUptoCard

/-- THE SECOND FORM's CARD OF 'consistorylaw04.RankWays'. -/
def rankWaysUptoCard : Claim7 := { stood := { row := rankWaysUptoRow, standIns := [], harness := (true, "f020eeb781593d56daa69a7cc06e1420dedbbf0f68a61d84e8d3556648cc65e3"), looks := false }, kinds := [], alts := [], laidByText := true, laidKinds := [.data, .data], laidTests := true, laidLooks := .later }
def RankWaysUptoCardSaid : Prop := Claim7.holds Tryd.pinned (.plain (OpenSpec.upto rankWaysSpec)) rankWaysUptoCard

/-- THE SECOND FORM's CARD OF 'consistorylaw04.RankSolved'. -/
def rankSolvedUptoCard : Claim7 := { stood := { row := rankSolvedUptoRow, standIns := [], harness := (true, "f020eeb781593d56daa69a7cc06e1420dedbbf0f68a61d84e8d3556648cc65e3"), looks := false }, kinds := [], alts := [], laidByText := true, laidKinds := [.data, .data], laidTests := true, laidLooks := .later }
def RankSolvedUptoCardSaid : Prop := Claim7.holds Tryd.pinned (.plain (OpenSpec.upto rankSolvedSpec)) rankSolvedUptoCard

/-- THE SECOND FORM's CARD OF 'consistorylaw21.AdmitFollows'. -/
def admitFollowsUptoCard : Claim7 := { stood := { row := admitFollowsUptoRow, standIns := [], harness := (true, "f020eeb781593d56daa69a7cc06e1420dedbbf0f68a61d84e8d3556648cc65e3"), looks := false }, kinds := [], alts := [], laidByText := true, laidKinds := [.data, .data], laidTests := true, laidLooks := .later }
def AdmitFollowsUptoCardSaid : Prop := Claim7.holds Tryd.pinned (.plain (OpenSpec.upto admitFollowsSpec)) admitFollowsUptoCard

/-- THE SECOND FORM's CARD OF 'consistorylaw21.AdmitRow'. -/
def admitRowUptoCard : Claim7 := { stood := { row := admitRowUptoRow, standIns := [], harness := (true, "f020eeb781593d56daa69a7cc06e1420dedbbf0f68a61d84e8d3556648cc65e3"), looks := false }, kinds := [], alts := [], laidByText := true, laidKinds := [.data, .data], laidTests := true, laidLooks := .later }
def AdmitRowUptoCardSaid : Prop := Claim7.holds Tryd.pinned (.plain (OpenSpec.upto admitRowSpec)) admitRowUptoCard

/-- THE SECOND FORM's CARD OF 'consistorylaw06.BivarBack'. -/
def bivarBackUptoCard : Claim7 := { stood := { row := bivarBackUptoRow, standIns := [], harness := (true, "f020eeb781593d56daa69a7cc06e1420dedbbf0f68a61d84e8d3556648cc65e3"), looks := false }, kinds := [], alts := [], laidByText := true, laidKinds := [.data, .data], laidTests := true, laidLooks := .later }
def BivarBackUptoCardSaid : Prop := Claim7.holds Tryd.pinned (.plain (OpenSpec.upto bivarBackSpec)) bivarBackUptoCard

/-- THE SECOND FORM's CARD OF 'consistorylaw06.BivarColumns'. -/
def bivarColumnsUptoCard : Claim7 := { stood := { row := bivarColumnsUptoRow, standIns := [], harness := (true, "f020eeb781593d56daa69a7cc06e1420dedbbf0f68a61d84e8d3556648cc65e3"), looks := false }, kinds := [], alts := [], laidByText := true, laidKinds := [.data, .data], laidTests := true, laidLooks := .later }
def BivarColumnsUptoCardSaid : Prop := Claim7.holds Tryd.pinned (.plain (OpenSpec.upto bivarColumnsSpec)) bivarColumnsUptoCard

/-- THE SECOND FORM's CARD OF 'consistorylaw06.BivarHidden'. -/
def bivarHiddenUptoCard : Claim7 := { stood := { row := bivarHiddenUptoRow, standIns := [], harness := (true, "f020eeb781593d56daa69a7cc06e1420dedbbf0f68a61d84e8d3556648cc65e3"), looks := false }, kinds := [], alts := [], laidByText := true, laidKinds := [.data, .data], laidTests := true, laidLooks := .later }
def BivarHiddenUptoCardSaid : Prop := Claim7.holds Tryd.pinned (.plain (OpenSpec.upto bivarHiddenSpec)) bivarHiddenUptoCard

/-- THE SECOND FORM's CARD OF 'consistorylaw05.RobustTells'. -/
def robustTellsUptoCard : Claim7 := { stood := { row := robustTellsUptoRow, standIns := [], harness := (true, "f020eeb781593d56daa69a7cc06e1420dedbbf0f68a61d84e8d3556648cc65e3"), looks := false }, kinds := [], alts := [], laidByText := true, laidKinds := [.data, .data], laidTests := true, laidLooks := .later }
def RobustTellsUptoCardSaid : Prop := Claim7.holds Tryd.pinned (.plain (OpenSpec.upto robustTellsSpec)) robustTellsUptoCard

/-- THE SECOND FORM's CARD OF 'consistorylaw05.RobustFits'. -/
def robustFitsUptoCard : Claim7 := { stood := { row := robustFitsUptoRow, standIns := [], harness := (true, "f020eeb781593d56daa69a7cc06e1420dedbbf0f68a61d84e8d3556648cc65e3"), looks := false }, kinds := [], alts := [], laidByText := true, laidKinds := [.data, .data], laidTests := true, laidLooks := .later }
def RobustFitsUptoCardSaid : Prop := Claim7.holds Tryd.pinned (.plain (OpenSpec.upto robustFitsSpec)) robustFitsUptoCard

/-- THE SECOND FORM's CARD OF 'consistorylaw05.RobustAlong'. -/
def robustAlongUptoCard : Claim7 := { stood := { row := robustAlongUptoRow, standIns := [], harness := (true, "f020eeb781593d56daa69a7cc06e1420dedbbf0f68a61d84e8d3556648cc65e3"), looks := false }, kinds := [], alts := [], laidByText := true, laidKinds := [.data, .data], laidTests := true, laidLooks := .later }
def RobustAlongUptoCardSaid : Prop := Claim7.holds Tryd.pinned (.plain (OpenSpec.upto robustAlongSpec)) robustAlongUptoCard

/-- THE SECOND FORM's CARD OF 'consistorylaw05.RobustAhead'. -/
def robustAheadUptoCard : Claim7 := { stood := { row := robustAheadUptoRow, standIns := [], harness := (true, "f020eeb781593d56daa69a7cc06e1420dedbbf0f68a61d84e8d3556648cc65e3"), looks := false }, kinds := [], alts := [], laidByText := true, laidKinds := [.data, .data], laidTests := true, laidLooks := .later }
def RobustAheadUptoCardSaid : Prop := Claim7.holds Tryd.pinned (.plain (OpenSpec.upto robustAheadSpec)) robustAheadUptoCard

/-- THE SECOND FORM's CARD OF 'consistorylaw21.AdmitBlind'. -/
def admitBlindUptoCard : Claim7 := { stood := { row := admitBlindUptoRow, standIns := [], harness := (true, "f020eeb781593d56daa69a7cc06e1420dedbbf0f68a61d84e8d3556648cc65e3"), looks := false }, kinds := [], alts := [], laidByText := true, laidKinds := [.data, .data], laidTests := true, laidLooks := .later }
def AdmitBlindUptoCardSaid : Prop := Claim7.holds Tryd.pinned (.plain (OpenSpec.upto admitBlindSpec)) admitBlindUptoCard

/-- THE SECOND FORM's CARD OF 'consistorylaw21.AdmitTells'. -/
def admitTellsUptoCard : Claim7 := { stood := { row := admitTellsUptoRow, standIns := [], harness := (true, "f020eeb781593d56daa69a7cc06e1420dedbbf0f68a61d84e8d3556648cc65e3"), looks := false }, kinds := [], alts := [], laidByText := true, laidKinds := [.data, .data], laidTests := true, laidLooks := .later }
def AdmitTellsUptoCardSaid : Prop := Claim7.holds Tryd.pinned (.plain (OpenSpec.upto admitTellsSpec)) admitTellsUptoCard
end Rows
end Go.Proofs.YtcojnjhffmhbiaaDoor
