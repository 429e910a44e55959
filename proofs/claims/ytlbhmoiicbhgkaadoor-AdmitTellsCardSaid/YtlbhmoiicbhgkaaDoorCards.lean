/-
  DERIVED. GIVEN WITH THE SEED: THE CARDS: each row of YtlbhmoiicbhgkaaDoorRows.lean that lists a variable, with what it lists TIED to the program's text (the seventh form; the later family's looks); each row that meets fmt, with fmt's text TOLD by the authors' own Lean function (tested against real Go, not proved from fmt's source: count such statements apart). THE CARD IS WHAT COUNTS. Prove the row's statement (the work); the ties are given (YtlbhmoiicbhgkaaDoorTie.lean); close each card by the builder's one call (the guide's Derived/Test/ToyasCard.lean, 'card_holds'). Laid BY PROGRAM, IN A SANDBOX (cutbox-door.mjs). By AI agents, Wed Nov 11 2026. No macro, syntax, notation, axiom, sorry.
-/
import Derived.Test.YtlbhmoiicbhgkaaDoorRows
import GoSem.ClaimSeven
namespace Go.Proofs.YtlbhmoiicbhgkaaDoor
namespace Rows

/-- THE TIED CARD OF 'consistorylaw04.RankTells'. -/
def rankTellsCard : Claim7 := { stood := { row := rankTellsRow, standIns := [], harness := (true, "da6d4decbc9d0acaf6e32e2e04fae10cd6ebdb1f58acffaeddeac9726658d4f3"), looks := false }, kinds := [], alts := [], laidByText := true, laidKinds := [.data, .data], laidTests := true, laidLooks := .later }
def RankTellsCardSaid : Prop := Claim7.holds Tryd.pinned (.plain (OpenSpec.ofChange rankTellsSpec)) rankTellsCard

/-- THE TIED CARD OF 'consistorylaw04.RankSolves'. -/
def rankSolvesCard : Claim7 := { stood := { row := rankSolvesRow, standIns := [], harness := (true, "da6d4decbc9d0acaf6e32e2e04fae10cd6ebdb1f58acffaeddeac9726658d4f3"), looks := false }, kinds := [], alts := [], laidByText := true, laidKinds := [.data, .data], laidTests := true, laidLooks := .later }
def RankSolvesCardSaid : Prop := Claim7.holds Tryd.pinned (.plain (OpenSpec.ofChange rankSolvesSpec)) rankSolvesCard

/-- THE TIED CARD OF 'consistorylaw21.AdmitRow'. -/
def admitRowCard : Claim7 := { stood := { row := admitRowRow, standIns := [], harness := (true, "da6d4decbc9d0acaf6e32e2e04fae10cd6ebdb1f58acffaeddeac9726658d4f3"), looks := false }, kinds := [], alts := [], laidByText := true, laidKinds := [.data, .data], laidTests := true, laidLooks := .later }
def AdmitRowCardSaid : Prop := Claim7.holds Tryd.pinned (.plain (OpenSpec.ofChange admitRowSpec)) admitRowCard

/-- THE TIED CARD OF 'consistorylaw05.RobustTells'. -/
def robustTellsCard : Claim7 := { stood := { row := robustTellsRow, standIns := [], harness := (true, "da6d4decbc9d0acaf6e32e2e04fae10cd6ebdb1f58acffaeddeac9726658d4f3"), looks := false }, kinds := [], alts := [], laidByText := true, laidKinds := [.data, .data], laidTests := true, laidLooks := .later }
def RobustTellsCardSaid : Prop := Claim7.holds Tryd.pinned (.plain (OpenSpec.ofChange robustTellsSpec)) robustTellsCard

/-- THE TIED CARD OF 'consistorylaw21.AdmitTells'. -/
def admitTellsCard : Claim7 := { stood := { row := admitTellsRow, standIns := [], harness := (true, "da6d4decbc9d0acaf6e32e2e04fae10cd6ebdb1f58acffaeddeac9726658d4f3"), looks := false }, kinds := [], alts := [], laidByText := true, laidKinds := [.data, .data], laidTests := true, laidLooks := .later }
def AdmitTellsCardSaid : Prop := Claim7.holds Tryd.pinned (.plain (OpenSpec.ofChange admitTellsSpec)) admitTellsCard

/-- THE SECOND FORM's CARD OF 'consistorylaw04.RankTells'. -/
def rankTellsUptoCard : Claim7 := { stood := { row := rankTellsUptoRow, standIns := [], harness := (true, "da6d4decbc9d0acaf6e32e2e04fae10cd6ebdb1f58acffaeddeac9726658d4f3"), looks := false }, kinds := [], alts := [], laidByText := true, laidKinds := [.data, .data], laidTests := true, laidLooks := .later }
def RankTellsUptoCardSaid : Prop := Claim7.holds Tryd.pinned (.plain (OpenSpec.upto rankTellsSpec)) rankTellsUptoCard

/-- THE SECOND FORM's CARD OF 'consistorylaw04.RankSolves'. -/
def rankSolvesUptoCard : Claim7 := { stood := { row := rankSolvesUptoRow, standIns := [], harness := (true, "da6d4decbc9d0acaf6e32e2e04fae10cd6ebdb1f58acffaeddeac9726658d4f3"), looks := false }, kinds := [], alts := [], laidByText := true, laidKinds := [.data, .data], laidTests := true, laidLooks := .later }
def RankSolvesUptoCardSaid : Prop := Claim7.holds Tryd.pinned (.plain (OpenSpec.upto rankSolvesSpec)) rankSolvesUptoCard

/-- THE SECOND FORM's CARD OF 'consistorylaw21.AdmitRow'. -/
def admitRowUptoCard : Claim7 := { stood := { row := admitRowUptoRow, standIns := [], harness := (true, "da6d4decbc9d0acaf6e32e2e04fae10cd6ebdb1f58acffaeddeac9726658d4f3"), looks := false }, kinds := [], alts := [], laidByText := true, laidKinds := [.data, .data], laidTests := true, laidLooks := .later }
def AdmitRowUptoCardSaid : Prop := Claim7.holds Tryd.pinned (.plain (OpenSpec.upto admitRowSpec)) admitRowUptoCard

/-- THE SECOND FORM's CARD OF 'consistorylaw05.RobustTells'. -/
def robustTellsUptoCard : Claim7 := { stood := { row := robustTellsUptoRow, standIns := [], harness := (true, "da6d4decbc9d0acaf6e32e2e04fae10cd6ebdb1f58acffaeddeac9726658d4f3"), looks := false }, kinds := [], alts := [], laidByText := true, laidKinds := [.data, .data], laidTests := true, laidLooks := .later }
def RobustTellsUptoCardSaid : Prop := Claim7.holds Tryd.pinned (.plain (OpenSpec.upto robustTellsSpec)) robustTellsUptoCard

/-- THE SECOND FORM's CARD OF 'consistorylaw21.AdmitTells'. -/
def admitTellsUptoCard : Claim7 := { stood := { row := admitTellsUptoRow, standIns := [], harness := (true, "da6d4decbc9d0acaf6e32e2e04fae10cd6ebdb1f58acffaeddeac9726658d4f3"), looks := false }, kinds := [], alts := [], laidByText := true, laidKinds := [.data, .data], laidTests := true, laidLooks := .later }
def AdmitTellsUptoCardSaid : Prop := Claim7.holds Tryd.pinned (.plain (OpenSpec.upto admitTellsSpec)) admitTellsUptoCard
end Rows
end Go.Proofs.YtlbhmoiicbhgkaaDoor
