/-
  DERIVED. GIVEN WITH THE SEED: THE CARDS: each row of YtmmmdidbnjcooaaDoorRows.lean that lists a variable, with what it lists TIED to the program's text (the seventh form; the later family's looks); each row that meets fmt, with fmt's text TOLD by the authors' own Lean function (tested against real Go, not proved from fmt's source: count such statements apart). THE CARD IS WHAT COUNTS. Prove the row's statement (the work); the ties are given (YtmmmdidbnjcooaaDoorTie.lean); close each card by the builder's one call (the guide's Derived/Test/ToyasCard.lean, 'card_holds'). Laid BY PROGRAM, IN A SANDBOX (cutbox-door.mjs). By AI agents, Wed Nov 11 2026. No macro, syntax, notation, axiom, sorry.
-/
import Derived.Test.YtmmmdidbnjcooaaDoorRows
import GoSem.ClaimSeven
namespace Go.Proofs.YtmmmdidbnjcooaaDoor
namespace Rows

/-- THE TIED CARD OF 'consistorylaw04.RankNames'. -/
def rankNamesCard : Claim7 := { stood := { row := rankNamesRow, standIns := [], harness := (true, "ccc148878320954120725c11e278998756540f3e43dac2ff522164c523e982ef"), looks := false }, kinds := [], alts := [], laidByText := true, laidKinds := [.data, .data], laidTests := true, laidLooks := .later }
def RankNamesCardSaid : Prop := Claim7.holds Tryd.pinned (.plain (OpenSpec.ofChange rankNamesSpec)) rankNamesCard

/-- THE TIED CARD OF 'consistorylaw21.AdmitNever'. -/
def admitNeverCard : Claim7 := { stood := { row := admitNeverRow, standIns := [], harness := (true, "ccc148878320954120725c11e278998756540f3e43dac2ff522164c523e982ef"), looks := false }, kinds := [], alts := [], laidByText := true, laidKinds := [.data, .data], laidTests := true, laidLooks := .later }
def AdmitNeverCardSaid : Prop := Claim7.holds Tryd.pinned (.plain (OpenSpec.ofChange admitNeverSpec)) admitNeverCard

/-- THE TIED CARD OF 'consistorylaw05.RobustNames'. -/
def robustNamesCard : Claim7 := { stood := { row := robustNamesRow, standIns := [], harness := (true, "ccc148878320954120725c11e278998756540f3e43dac2ff522164c523e982ef"), looks := false }, kinds := [], alts := [], laidByText := true, laidKinds := [.data, .data], laidTests := true, laidLooks := .later }
def RobustNamesCardSaid : Prop := Claim7.holds Tryd.pinned (.plain (OpenSpec.ofChange robustNamesSpec)) robustNamesCard

/-- THE TIED CARD OF 'consistorylaw05.RobustLies'. -/
def robustLiesCard : Claim7 := { stood := { row := robustLiesRow, standIns := [], harness := (true, "ccc148878320954120725c11e278998756540f3e43dac2ff522164c523e982ef"), looks := false }, kinds := [], alts := [], laidByText := true, laidKinds := [.data, .data], laidTests := true, laidLooks := .later }
def RobustLiesCardSaid : Prop := Claim7.holds Tryd.pinned (.plain (OpenSpec.ofChange robustLiesSpec)) robustLiesCard

/-- THE TIED CARD OF 'consistorylaw05.RobustFits'. -/
def robustFitsCard : Claim7 := { stood := { row := robustFitsRow, standIns := [], harness := (true, "ccc148878320954120725c11e278998756540f3e43dac2ff522164c523e982ef"), looks := false }, kinds := [], alts := [], laidByText := true, laidKinds := [.data, .data], laidTests := true, laidLooks := .later }
def RobustFitsCardSaid : Prop := Claim7.holds Tryd.pinned (.plain (OpenSpec.ofChange robustFitsSpec)) robustFitsCard

/-- THE TIED CARD OF 'consistorylaw05.RobustWithout'. -/
def robustWithoutCard : Claim7 := { stood := { row := robustWithoutRow, standIns := [], harness := (true, "ccc148878320954120725c11e278998756540f3e43dac2ff522164c523e982ef"), looks := false }, kinds := [], alts := [], laidByText := true, laidKinds := [.data, .data], laidTests := true, laidLooks := .later }
def RobustWithoutCardSaid : Prop := Claim7.holds Tryd.pinned (.plain (OpenSpec.ofChange robustWithoutSpec)) robustWithoutCard

/-- THE TIED CARD OF 'consistorylaw21.AdmitNames'. -/
def admitNamesCard : Claim7 := { stood := { row := admitNamesRow, standIns := [], harness := (true, "ccc148878320954120725c11e278998756540f3e43dac2ff522164c523e982ef"), looks := false }, kinds := [], alts := [], laidByText := true, laidKinds := [.data, .data], laidTests := true, laidLooks := .later }
def AdmitNamesCardSaid : Prop := Claim7.holds Tryd.pinned (.plain (OpenSpec.ofChange admitNamesSpec)) admitNamesCard

/-- THE TIED CARD OF 'consistorylaw22.ScoreNames'. -/
def scoreNamesCard : Claim7 := { stood := { row := scoreNamesRow, standIns := [], harness := (true, "ccc148878320954120725c11e278998756540f3e43dac2ff522164c523e982ef"), looks := false }, kinds := [], alts := [], laidByText := true, laidKinds := [.data, .data], laidTests := true, laidLooks := .later }
def ScoreNamesCardSaid : Prop := Claim7.holds Tryd.pinned (.plain (OpenSpec.ofChange scoreNamesSpec)) scoreNamesCard

/-- THE SECOND FORM's CARD OF 'consistorylaw04.RankNames'. -/
def rankNamesUptoCard : Claim7 := { stood := { row := rankNamesUptoRow, standIns := [], harness := (true, "ccc148878320954120725c11e278998756540f3e43dac2ff522164c523e982ef"), looks := false }, kinds := [], alts := [], laidByText := true, laidKinds := [.data, .data], laidTests := true, laidLooks := .later }
def RankNamesUptoCardSaid : Prop := Claim7.holds Tryd.pinned (.plain (OpenSpec.upto rankNamesSpec)) rankNamesUptoCard

/-- THE SECOND FORM's CARD OF 'consistorylaw21.AdmitNever'. -/
def admitNeverUptoCard : Claim7 := { stood := { row := admitNeverUptoRow, standIns := [], harness := (true, "ccc148878320954120725c11e278998756540f3e43dac2ff522164c523e982ef"), looks := false }, kinds := [], alts := [], laidByText := true, laidKinds := [.data, .data], laidTests := true, laidLooks := .later }
def AdmitNeverUptoCardSaid : Prop := Claim7.holds Tryd.pinned (.plain (OpenSpec.upto admitNeverSpec)) admitNeverUptoCard

/-- THE SECOND FORM's CARD OF 'consistorylaw05.RobustNames'. -/
def robustNamesUptoCard : Claim7 := { stood := { row := robustNamesUptoRow, standIns := [], harness := (true, "ccc148878320954120725c11e278998756540f3e43dac2ff522164c523e982ef"), looks := false }, kinds := [], alts := [], laidByText := true, laidKinds := [.data, .data], laidTests := true, laidLooks := .later }
def RobustNamesUptoCardSaid : Prop := Claim7.holds Tryd.pinned (.plain (OpenSpec.upto robustNamesSpec)) robustNamesUptoCard

/-- THE SECOND FORM's CARD OF 'consistorylaw05.RobustLies'. -/
def robustLiesUptoCard : Claim7 := { stood := { row := robustLiesUptoRow, standIns := [], harness := (true, "ccc148878320954120725c11e278998756540f3e43dac2ff522164c523e982ef"), looks := false }, kinds := [], alts := [], laidByText := true, laidKinds := [.data, .data], laidTests := true, laidLooks := .later }
def RobustLiesUptoCardSaid : Prop := Claim7.holds Tryd.pinned (.plain (OpenSpec.upto robustLiesSpec)) robustLiesUptoCard

/-- THE SECOND FORM's CARD OF 'consistorylaw05.RobustFits'. -/
def robustFitsUptoCard : Claim7 := { stood := { row := robustFitsUptoRow, standIns := [], harness := (true, "ccc148878320954120725c11e278998756540f3e43dac2ff522164c523e982ef"), looks := false }, kinds := [], alts := [], laidByText := true, laidKinds := [.data, .data], laidTests := true, laidLooks := .later }
def RobustFitsUptoCardSaid : Prop := Claim7.holds Tryd.pinned (.plain (OpenSpec.upto robustFitsSpec)) robustFitsUptoCard

/-- THE SECOND FORM's CARD OF 'consistorylaw05.RobustWithout'. -/
def robustWithoutUptoCard : Claim7 := { stood := { row := robustWithoutUptoRow, standIns := [], harness := (true, "ccc148878320954120725c11e278998756540f3e43dac2ff522164c523e982ef"), looks := false }, kinds := [], alts := [], laidByText := true, laidKinds := [.data, .data], laidTests := true, laidLooks := .later }
def RobustWithoutUptoCardSaid : Prop := Claim7.holds Tryd.pinned (.plain (OpenSpec.upto robustWithoutSpec)) robustWithoutUptoCard

/-- THE SECOND FORM's CARD OF 'consistorylaw21.AdmitNames'. -/
def admitNamesUptoCard : Claim7 := { stood := { row := admitNamesUptoRow, standIns := [], harness := (true, "ccc148878320954120725c11e278998756540f3e43dac2ff522164c523e982ef"), looks := false }, kinds := [], alts := [], laidByText := true, laidKinds := [.data, .data], laidTests := true, laidLooks := .later }
def AdmitNamesUptoCardSaid : Prop := Claim7.holds Tryd.pinned (.plain (OpenSpec.upto admitNamesSpec)) admitNamesUptoCard

/-- THE SECOND FORM's CARD OF 'consistorylaw22.ScoreNames'. -/
def scoreNamesUptoCard : Claim7 := { stood := { row := scoreNamesUptoRow, standIns := [], harness := (true, "ccc148878320954120725c11e278998756540f3e43dac2ff522164c523e982ef"), looks := false }, kinds := [], alts := [], laidByText := true, laidKinds := [.data, .data], laidTests := true, laidLooks := .later }
def ScoreNamesUptoCardSaid : Prop := Claim7.holds Tryd.pinned (.plain (OpenSpec.upto scoreNamesSpec)) scoreNamesUptoCard
end Rows
end Go.Proofs.YtmmmdidbnjcooaaDoor
