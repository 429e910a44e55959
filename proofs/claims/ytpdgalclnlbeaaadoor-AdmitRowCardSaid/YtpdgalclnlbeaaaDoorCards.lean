/-
  DERIVED. GIVEN WITH THE SEED: THE CARDS: each row of YtpdgalclnlbeaaaDoorRows.lean that lists a variable, with what it lists TIED to the program's text (the seventh form; the later family's looks); each row that meets fmt, with fmt's text TOLD by the authors' own Lean function (tested against real Go, not proved from fmt's source: count such statements apart). THE CARD IS WHAT COUNTS. Prove the row's statement (the work); the ties are given (YtpdgalclnlbeaaaDoorTie.lean); close each card by the builder's one call (the guide's Derived/Test/ToyasCard.lean, 'card_holds'). Laid BY PROGRAM, IN A SANDBOX (cutbox-door.mjs). By AI agents, Wed Nov 11 2026. No macro, syntax, notation, axiom, sorry.
-/
import Derived.Test.YtpdgalclnlbeaaaDoorRows
import GoSem.ClaimSeven
namespace Go.Proofs.YtpdgalclnlbeaaaDoor
namespace Rows

/-- THE TIED CARD OF 'consistorylaw21.AdmitRow'. -/
def admitRowCard : Claim7 := { stood := { row := admitRowRow, standIns := [], harness := (true, "1e865e27d4a8538ef68c097958d6303b7cc63439efa1f86c2ace13c4d93e00a5"), looks := false }, kinds := [], alts := [], laidByText := true, laidKinds := [.data, .data], laidTests := true, laidLooks := .later }
def AdmitRowCardSaid : Prop := Claim7.holds Tryd.pinned (.plain (OpenSpec.ofChange admitRowSpec)) admitRowCard

/-- THE SECOND FORM's CARD OF 'consistorylaw21.AdmitRow'. -/
def admitRowUptoCard : Claim7 := { stood := { row := admitRowUptoRow, standIns := [], harness := (true, "1e865e27d4a8538ef68c097958d6303b7cc63439efa1f86c2ace13c4d93e00a5"), looks := false }, kinds := [], alts := [], laidByText := true, laidKinds := [.data, .data], laidTests := true, laidLooks := .later }
def AdmitRowUptoCardSaid : Prop := Claim7.holds Tryd.pinned (.plain (OpenSpec.upto admitRowSpec)) admitRowUptoCard
end Rows
end Go.Proofs.YtpdgalclnlbeaaaDoor
